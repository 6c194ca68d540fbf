/-
  No cell of these rows narrows 'for every input' (looked for: loops, veiled, ifaces, maps, wideKeys, modest, calm, conditions, laid).
  DERIVED. THE GIVEN ROWS OF THIS SEAT. 11 by the template 'for every input the law returns true; each argument reads behind the call as it read before'; 0 by the template 'total and deterministic' (their statements: YtekcheccelllcaaTotals.lean).
  GIVEN WITH THE SEED: the statements are not yours to turn. If you find one false, say at which input.
  Laid BY PROGRAM, IN A SANDBOX (cutbox-rows.mjs): the forced cells as the released guide's own fill.sh prints them over the translation 179a7f48566076c5… (all of the seat's roots in one cut). By AI agents, Wed Nov 11 2026. No macro, syntax, notation, axiom, sorry.
-/
import Derived.Test.YtekcheccelllcaaChecked
import GoSem.Claim
import GoSem.ClaimJoined
import GoSem.ClaimMapViews
import Derived.JoinedTies
import Derived.KernelRfl
namespace Go.Proofs.Ytekcheccelllcaa
/- THE CELL 'sum', in the pinned program and in every row, IS THE sha256 OF THE DUMP (.gsa) THAT YtekcheccelllcaaProg.lean LOADS. Nothing in Lean hashes anything: it is a label: what it is worth is what the hold of that sum in a sandbox is worth. -/
noncomputable def Try.pinned : Pinned := { name := "ytekcheccelllcaa", sum := "179a7f48566076c50a42eb58510f7dd3162ecdc5aa7ed7173f72d82f8d184f51", checked := Try.checked }
namespace Rows
def none {H : Type} : Left H := { results := [], args := [] }

/-- 'frescolaw07.RectHas': WHATEVER THE INPUT: true; the input reads as it did. -/
def rectHasSpec : ChangeSpec := { name := "rectHas", fn := fun _ => fun
  | [d1, d2, d3] => { results := [.lit (.bool true)], args := [d1, d2, d3] }
  | _ => none }
def rectHasRow : OpenClaim := { program := "ytekcheccelllcaa", sum := "179a7f48566076c50a42eb58510f7dd3162ecdc5aa7ed7173f72d82f8d184f51", func := "fresco/frescolaw07.RectHas", spec := "rectHas", apart := false }
def RectHasSaid : Prop := rectHasRow.holds Try.pinned (OpenSpec.ofChange rectHasSpec)

/-- ITS FALSE NEIGHBOUR: 'it returns false'. Refute it at one input. -/
def rectHasWrong : ChangeSpec := { name := "rectHas", fn := fun _ => fun
  | [d1, d2, d3] => { results := [.lit (.bool false)], args := [d1, d2, d3] }
  | _ => none }
def RectHasWrongFalsely : Prop := rectHasRow.holds Try.pinned (OpenSpec.ofChange rectHasWrong)

/-- 'frescolaw07.RectBound': WHATEVER THE INPUT: true; the input reads as it did. -/
def rectBoundSpec : ChangeSpec := { name := "rectBound", fn := fun _ => fun
  | [d] => { results := [.lit (.bool true)], args := [d] }
  | _ => none }
def rectBoundRow : OpenClaim := { program := "ytekcheccelllcaa", sum := "179a7f48566076c50a42eb58510f7dd3162ecdc5aa7ed7173f72d82f8d184f51", func := "fresco/frescolaw07.RectBound", spec := "rectBound", apart := false }
def RectBoundSaid : Prop := rectBoundRow.holds Try.pinned (OpenSpec.ofChange rectBoundSpec)

/-- ITS FALSE NEIGHBOUR: 'it returns false'. Refute it at one input. -/
def rectBoundWrong : ChangeSpec := { name := "rectBound", fn := fun _ => fun
  | [d] => { results := [.lit (.bool false)], args := [d] }
  | _ => none }
def RectBoundWrongFalsely : Prop := rectBoundRow.holds Try.pinned (OpenSpec.ofChange rectBoundWrong)

/-- 'frescolaw07.RectMinus': WHATEVER THE INPUT: true; the input reads as it did. -/
def rectMinusSpec : ChangeSpec := { name := "rectMinus", fn := fun _ => fun
  | [d1, d2] => { results := [.lit (.bool true)], args := [d1, d2] }
  | _ => none }
def rectMinusRow : OpenClaim := { program := "ytekcheccelllcaa", sum := "179a7f48566076c50a42eb58510f7dd3162ecdc5aa7ed7173f72d82f8d184f51", func := "fresco/frescolaw07.RectMinus", spec := "rectMinus", apart := false }
def RectMinusSaid : Prop := rectMinusRow.holds Try.pinned (OpenSpec.ofChange rectMinusSpec)

/-- ITS FALSE NEIGHBOUR: 'it returns false'. Refute it at one input. -/
def rectMinusWrong : ChangeSpec := { name := "rectMinus", fn := fun _ => fun
  | [d1, d2] => { results := [.lit (.bool false)], args := [d1, d2] }
  | _ => none }
def RectMinusWrongFalsely : Prop := rectMinusRow.holds Try.pinned (OpenSpec.ofChange rectMinusWrong)

/-- 'frescolaw07.RectNames': WHATEVER THE INPUT: true; the input reads as it did. -/
def rectNamesSpec : ChangeSpec := { name := "rectNames", fn := fun _ => fun
  | [] => { results := [.lit (.bool true)], args := [] }
  | _ => none }
def rectNamesRow : OpenClaim := { program := "ytekcheccelllcaa", sum := "179a7f48566076c50a42eb58510f7dd3162ecdc5aa7ed7173f72d82f8d184f51", func := "fresco/frescolaw07.RectNames", spec := "rectNames", apart := false }
def RectNamesSaid : Prop := rectNamesRow.holds Try.pinned (OpenSpec.ofChange rectNamesSpec)

/-- ITS FALSE NEIGHBOUR: 'it returns false'. Refute it at one input. -/
def rectNamesWrong : ChangeSpec := { name := "rectNames", fn := fun _ => fun
  | [] => { results := [.lit (.bool false)], args := [] }
  | _ => none }
def RectNamesWrongFalsely : Prop := rectNamesRow.holds Try.pinned (OpenSpec.ofChange rectNamesWrong)

/-- 'frescolaw07.RectAround': WHATEVER THE INPUT: true; the input reads as it did. -/
def rectAroundSpec : ChangeSpec := { name := "rectAround", fn := fun _ => fun
  | [d] => { results := [.lit (.bool true)], args := [d] }
  | _ => none }
def rectAroundRow : OpenClaim := { program := "ytekcheccelllcaa", sum := "179a7f48566076c50a42eb58510f7dd3162ecdc5aa7ed7173f72d82f8d184f51", func := "fresco/frescolaw07.RectAround", spec := "rectAround", apart := false }
def RectAroundSaid : Prop := rectAroundRow.holds Try.pinned (OpenSpec.ofChange rectAroundSpec)

/-- ITS FALSE NEIGHBOUR: 'it returns false'. Refute it at one input. -/
def rectAroundWrong : ChangeSpec := { name := "rectAround", fn := fun _ => fun
  | [d] => { results := [.lit (.bool false)], args := [d] }
  | _ => none }
def RectAroundWrongFalsely : Prop := rectAroundRow.holds Try.pinned (OpenSpec.ofChange rectAroundWrong)

/-- 'frescolaw07.RectForms': WHATEVER THE INPUT: true; the input reads as it did. -/
def rectFormsSpec : ChangeSpec := { name := "rectForms", fn := fun _ => fun
  | [d1, d2, d3] => { results := [.lit (.bool true)], args := [d1, d2, d3] }
  | _ => none }
def rectFormsRow : OpenClaim := { program := "ytekcheccelllcaa", sum := "179a7f48566076c50a42eb58510f7dd3162ecdc5aa7ed7173f72d82f8d184f51", func := "fresco/frescolaw07.RectForms", spec := "rectForms", apart := false }
def RectFormsSaid : Prop := rectFormsRow.holds Try.pinned (OpenSpec.ofChange rectFormsSpec)

/-- ITS FALSE NEIGHBOUR: 'it returns false'. Refute it at one input. -/
def rectFormsWrong : ChangeSpec := { name := "rectForms", fn := fun _ => fun
  | [d1, d2, d3] => { results := [.lit (.bool false)], args := [d1, d2, d3] }
  | _ => none }
def RectFormsWrongFalsely : Prop := rectFormsRow.holds Try.pinned (OpenSpec.ofChange rectFormsWrong)

/-- 'frescolaw07.RectPieces': WHATEVER THE INPUT: true; the input reads as it did. -/
def rectPiecesSpec : ChangeSpec := { name := "rectPieces", fn := fun _ => fun
  | [d1, d2, d3] => { results := [.lit (.bool true)], args := [d1, d2, d3] }
  | _ => none }
def rectPiecesRow : OpenClaim := { program := "ytekcheccelllcaa", sum := "179a7f48566076c50a42eb58510f7dd3162ecdc5aa7ed7173f72d82f8d184f51", func := "fresco/frescolaw07.RectPieces", spec := "rectPieces", apart := false }
def RectPiecesSaid : Prop := rectPiecesRow.holds Try.pinned (OpenSpec.ofChange rectPiecesSpec)

/-- ITS FALSE NEIGHBOUR: 'it returns false'. Refute it at one input. -/
def rectPiecesWrong : ChangeSpec := { name := "rectPieces", fn := fun _ => fun
  | [d1, d2, d3] => { results := [.lit (.bool false)], args := [d1, d2, d3] }
  | _ => none }
def RectPiecesWrongFalsely : Prop := rectPiecesRow.holds Try.pinned (OpenSpec.ofChange rectPiecesWrong)

/-- 'frescolaw07.RectOrder': WHATEVER THE INPUT: true; the input reads as it did. -/
def rectOrderSpec : ChangeSpec := { name := "rectOrder", fn := fun _ => fun
  | [d1, d2] => { results := [.lit (.bool true)], args := [d1, d2] }
  | _ => none }
def rectOrderRow : OpenClaim := { program := "ytekcheccelllcaa", sum := "179a7f48566076c50a42eb58510f7dd3162ecdc5aa7ed7173f72d82f8d184f51", func := "fresco/frescolaw07.RectOrder", spec := "rectOrder", unfollowed := true, recurses := true, apart := false }
def RectOrderSaid : Prop := rectOrderRow.holds Try.pinned (OpenSpec.ofChange rectOrderSpec)

/-- ITS FALSE NEIGHBOUR: 'it returns false'. Refute it at one input. -/
def rectOrderWrong : ChangeSpec := { name := "rectOrder", fn := fun _ => fun
  | [d1, d2] => { results := [.lit (.bool false)], args := [d1, d2] }
  | _ => none }
def RectOrderWrongFalsely : Prop := rectOrderRow.holds Try.pinned (OpenSpec.ofChange rectOrderWrong)

/-- 'frescolaw07.RectNil': WHATEVER THE INPUT: true; the input reads as it did. -/
def rectNilSpec : ChangeSpec := { name := "rectNil", fn := fun _ => fun
  | [d] => { results := [.lit (.bool true)], args := [d] }
  | _ => none }
def rectNilRow : OpenClaim := { program := "ytekcheccelllcaa", sum := "179a7f48566076c50a42eb58510f7dd3162ecdc5aa7ed7173f72d82f8d184f51", func := "fresco/frescolaw07.RectNil", spec := "rectNil", unfollowed := true, recurses := true, apart := false }
def RectNilSaid : Prop := rectNilRow.holds Try.pinned (OpenSpec.ofChange rectNilSpec)

/-- ITS FALSE NEIGHBOUR: 'it returns false'. Refute it at one input. -/
def rectNilWrong : ChangeSpec := { name := "rectNil", fn := fun _ => fun
  | [d] => { results := [.lit (.bool false)], args := [d] }
  | _ => none }
def RectNilWrongFalsely : Prop := rectNilRow.holds Try.pinned (OpenSpec.ofChange rectNilWrong)

/-- 'frescolaw07.RectScripts': WHATEVER THE INPUT: true; the input reads as it did. -/
def rectScriptsSpec : ChangeSpec := { name := "rectScripts", fn := fun _ => fun
  | [d1, d2] => { results := [.lit (.bool true)], args := [d1, d2] }
  | _ => none }
def rectScriptsRow : OpenClaim := { program := "ytekcheccelllcaa", sum := "179a7f48566076c50a42eb58510f7dd3162ecdc5aa7ed7173f72d82f8d184f51", func := "fresco/frescolaw07.RectScripts", spec := "rectScripts", unfollowed := true, recurses := true, apart := false }
def RectScriptsSaid : Prop := rectScriptsRow.holds Try.pinned (OpenSpec.ofChange rectScriptsSpec)

/-- ITS FALSE NEIGHBOUR: 'it returns false'. Refute it at one input. -/
def rectScriptsWrong : ChangeSpec := { name := "rectScripts", fn := fun _ => fun
  | [d1, d2] => { results := [.lit (.bool false)], args := [d1, d2] }
  | _ => none }
def RectScriptsWrongFalsely : Prop := rectScriptsRow.holds Try.pinned (OpenSpec.ofChange rectScriptsWrong)

/-- 'frescolaw07.RectSets': WHATEVER THE INPUT: true; the input reads as it did. -/
def rectSetsSpec : ChangeSpec := { name := "rectSets", fn := fun _ => fun
  | [d1, d2, d3] => { results := [.lit (.bool true)], args := [d1, d2, d3] }
  | _ => none }
def rectSetsRow : OpenClaim := { program := "ytekcheccelllcaa", sum := "179a7f48566076c50a42eb58510f7dd3162ecdc5aa7ed7173f72d82f8d184f51", func := "fresco/frescolaw07.RectSets", spec := "rectSets", unfollowed := true, recurses := true, apart := false }
def RectSetsSaid : Prop := rectSetsRow.holds Try.pinned (OpenSpec.ofChange rectSetsSpec)

/-- ITS FALSE NEIGHBOUR: 'it returns false'. Refute it at one input. -/
def rectSetsWrong : ChangeSpec := { name := "rectSets", fn := fun _ => fun
  | [d1, d2, d3] => { results := [.lit (.bool false)], args := [d1, d2, d3] }
  | _ => none }
def RectSetsWrongFalsely : Prop := rectSetsRow.holds Try.pinned (OpenSpec.ofChange rectSetsWrong)

/- THE SECOND FORM. 'bulk': how many values and letters a reading holds, each counted each time it is reached (what is shared counts as often as it is met; a slice's spare places count too). A statement '..UptoSaid' is the law's where the arguments, and the package variables that the reading takes, are together of bulk at most 1048576: NARROWER than '..Said'. Prove '..Said' where nothing that the law and all that it calls make is longer than what came in: it says more and counts as full. Else prove '..UptoSaid'. A law counts once. -/
mutual
def uptoBulk {H : Type} : DataW H → Nat
  | .lit (.string bytes) => bytes.length + 1
  | .lit _ => 1
  | .nil => 1
  | .ptr d => uptoBulk d + 1
  | .slice elems spare => uptoBulkAll elems + uptoBulkAll spare + 1
  | .agg parts => uptoBulkAll parts + 1
  | .iface _ d => uptoBulk d + 1
  | .map entries => uptoBulkEntries entries + 1
  | .held _ => 1
def uptoBulkAll {H : Type} : List (DataW H) → Nat
  | [] => 0
  | d :: r => uptoBulk d + uptoBulkAll r
def uptoBulkEntries {H : Type} : List (Lit × DataW H) → Nat
  | [] => 0
  | x :: r => uptoBulkEntry x + uptoBulkEntries r
def uptoBulkEntry {H : Type} : Lit × DataW H → Nat
  | (.string bytes, d) => bytes.length + uptoBulk d + 1
  | (_, d) => uptoBulk d + 1
 end
def uptoSmall : (H : Type) → List (DataW H) → Bool := fun _ ds => decide (uptoBulkAll ds ≤ 1048576)
def OpenSpec.upto (s : _root_.Go.ChangeSpec) : _root_.Go.OpenSpec := { _root_.Go.OpenSpec.ofChange s with cond := some uptoSmall }

/-- 'frescolaw07.RectHas', WHERE WHAT IT READS IS OF BULK AT MOST 1048576: true; the input reads as it did. -/
def rectHasUptoRow : OpenClaim := { program := "ytekcheccelllcaa", sum := "179a7f48566076c50a42eb58510f7dd3162ecdc5aa7ed7173f72d82f8d184f51", func := "fresco/frescolaw07.RectHas", spec := "rectHas", apart := false, narrowed := true }
def RectHasUptoSaid : Prop := rectHasUptoRow.holds Try.pinned (OpenSpec.upto rectHasSpec)

/-- 'frescolaw07.RectBound', WHERE WHAT IT READS IS OF BULK AT MOST 1048576: true; the input reads as it did. -/
def rectBoundUptoRow : OpenClaim := { program := "ytekcheccelllcaa", sum := "179a7f48566076c50a42eb58510f7dd3162ecdc5aa7ed7173f72d82f8d184f51", func := "fresco/frescolaw07.RectBound", spec := "rectBound", apart := false, narrowed := true }
def RectBoundUptoSaid : Prop := rectBoundUptoRow.holds Try.pinned (OpenSpec.upto rectBoundSpec)

/-- 'frescolaw07.RectMinus', WHERE WHAT IT READS IS OF BULK AT MOST 1048576: true; the input reads as it did. -/
def rectMinusUptoRow : OpenClaim := { program := "ytekcheccelllcaa", sum := "179a7f48566076c50a42eb58510f7dd3162ecdc5aa7ed7173f72d82f8d184f51", func := "fresco/frescolaw07.RectMinus", spec := "rectMinus", apart := false, narrowed := true }
def RectMinusUptoSaid : Prop := rectMinusUptoRow.holds Try.pinned (OpenSpec.upto rectMinusSpec)

/-- 'frescolaw07.RectNames', WHERE WHAT IT READS IS OF BULK AT MOST 1048576: true; the input reads as it did. -/
def rectNamesUptoRow : OpenClaim := { program := "ytekcheccelllcaa", sum := "179a7f48566076c50a42eb58510f7dd3162ecdc5aa7ed7173f72d82f8d184f51", func := "fresco/frescolaw07.RectNames", spec := "rectNames", apart := false, narrowed := true }
def RectNamesUptoSaid : Prop := rectNamesUptoRow.holds Try.pinned (OpenSpec.upto rectNamesSpec)

/-- 'frescolaw07.RectAround', WHERE WHAT IT READS IS OF BULK AT MOST 1048576: true; the input reads as it did. -/
def rectAroundUptoRow : OpenClaim := { program := "ytekcheccelllcaa", sum := "179a7f48566076c50a42eb58510f7dd3162ecdc5aa7ed7173f72d82f8d184f51", func := "fresco/frescolaw07.RectAround", spec := "rectAround", apart := false, narrowed := true }
def RectAroundUptoSaid : Prop := rectAroundUptoRow.holds Try.pinned (OpenSpec.upto rectAroundSpec)

/-- 'frescolaw07.RectForms', WHERE WHAT IT READS IS OF BULK AT MOST 1048576: true; the input reads as it did. -/
def rectFormsUptoRow : OpenClaim := { program := "ytekcheccelllcaa", sum := "179a7f48566076c50a42eb58510f7dd3162ecdc5aa7ed7173f72d82f8d184f51", func := "fresco/frescolaw07.RectForms", spec := "rectForms", apart := false, narrowed := true }
def RectFormsUptoSaid : Prop := rectFormsUptoRow.holds Try.pinned (OpenSpec.upto rectFormsSpec)

/-- 'frescolaw07.RectPieces', WHERE WHAT IT READS IS OF BULK AT MOST 1048576: true; the input reads as it did. -/
def rectPiecesUptoRow : OpenClaim := { program := "ytekcheccelllcaa", sum := "179a7f48566076c50a42eb58510f7dd3162ecdc5aa7ed7173f72d82f8d184f51", func := "fresco/frescolaw07.RectPieces", spec := "rectPieces", apart := false, narrowed := true }
def RectPiecesUptoSaid : Prop := rectPiecesUptoRow.holds Try.pinned (OpenSpec.upto rectPiecesSpec)

/-- 'frescolaw07.RectOrder', WHERE WHAT IT READS IS OF BULK AT MOST 1048576: true; the input reads as it did. -/
def rectOrderUptoRow : OpenClaim := { program := "ytekcheccelllcaa", sum := "179a7f48566076c50a42eb58510f7dd3162ecdc5aa7ed7173f72d82f8d184f51", func := "fresco/frescolaw07.RectOrder", spec := "rectOrder", unfollowed := true, recurses := true, apart := false, narrowed := true }
def RectOrderUptoSaid : Prop := rectOrderUptoRow.holds Try.pinned (OpenSpec.upto rectOrderSpec)

/-- 'frescolaw07.RectNil', WHERE WHAT IT READS IS OF BULK AT MOST 1048576: true; the input reads as it did. -/
def rectNilUptoRow : OpenClaim := { program := "ytekcheccelllcaa", sum := "179a7f48566076c50a42eb58510f7dd3162ecdc5aa7ed7173f72d82f8d184f51", func := "fresco/frescolaw07.RectNil", spec := "rectNil", unfollowed := true, recurses := true, apart := false, narrowed := true }
def RectNilUptoSaid : Prop := rectNilUptoRow.holds Try.pinned (OpenSpec.upto rectNilSpec)

/-- 'frescolaw07.RectScripts', WHERE WHAT IT READS IS OF BULK AT MOST 1048576: true; the input reads as it did. -/
def rectScriptsUptoRow : OpenClaim := { program := "ytekcheccelllcaa", sum := "179a7f48566076c50a42eb58510f7dd3162ecdc5aa7ed7173f72d82f8d184f51", func := "fresco/frescolaw07.RectScripts", spec := "rectScripts", unfollowed := true, recurses := true, apart := false, narrowed := true }
def RectScriptsUptoSaid : Prop := rectScriptsUptoRow.holds Try.pinned (OpenSpec.upto rectScriptsSpec)

/-- 'frescolaw07.RectSets', WHERE WHAT IT READS IS OF BULK AT MOST 1048576: true; the input reads as it did. -/
def rectSetsUptoRow : OpenClaim := { program := "ytekcheccelllcaa", sum := "179a7f48566076c50a42eb58510f7dd3162ecdc5aa7ed7173f72d82f8d184f51", func := "fresco/frescolaw07.RectSets", spec := "rectSets", unfollowed := true, recurses := true, apart := false, narrowed := true }
def RectSetsUptoSaid : Prop := rectSetsUptoRow.holds Try.pinned (OpenSpec.upto rectSetsSpec)

end Rows
end Go.Proofs.Ytekcheccelllcaa
