/-
  No cell of these rows narrows 'for every input' (looked for: loops, veiled, ifaces, maps, wideKeys, modest, calm, conditions, laid).
  DERIVED. THE GIVEN ROWS OF THIS SEAT. 10 by the template 'for every input the law returns true; each argument reads behind the call as it read before'; 0 by the template 'total and deterministic' (their statements: YtcihihncgpddfaaTotals.lean).
  GIVEN WITH THE SEED: the statements are not yours to turn. If you find one false, say at which input.
  Laid BY PROGRAM, IN A SANDBOX (cutbox-rows.mjs): the forced cells as the released guide's own fill.sh prints them over the translation 08630be2d16f8ea5… (all of the seat's roots in one cut). By AI agents, Wed Nov 11 2026. No macro, syntax, notation, axiom, sorry.
-/
import Derived.Test.YtcihihncgpddfaaChecked
import GoSem.Claim
import GoSem.ClaimJoined
import GoSem.ClaimMapViews
import Derived.JoinedTies
import Derived.KernelRfl
namespace Go.Proofs.Ytcihihncgpddfaa
/- THE CELL 'sum', in the pinned program and in every row, IS THE sha256 OF THE DUMP (.gsa) THAT YtcihihncgpddfaaProg.lean LOADS. Nothing in Lean hashes anything: it is a label: what it is worth is what the hold of that sum in a sandbox is worth. -/
noncomputable def Try.pinned : Pinned := { name := "ytcihihncgpddfaa", sum := "08630be2d16f8ea59689687930c444d34b6227297b9a9eb75a233bcdfd0c0d29", checked := Try.checked }
namespace Rows
def none {H : Type} : Left H := { results := [], args := [] }

/-- 'frescolaw10.TreeCheck': WHATEVER THE INPUT: true; the input reads as it did. -/
def treeCheckSpec : ChangeSpec := { name := "treeCheck", fn := fun _ => fun
  | [d] => { results := [.lit (.bool true)], args := [d] }
  | _ => none }
def treeCheckRow : OpenClaim := { program := "ytcihihncgpddfaa", sum := "08630be2d16f8ea59689687930c444d34b6227297b9a9eb75a233bcdfd0c0d29", func := "fresco/frescolaw10.TreeCheck", spec := "treeCheck", unfollowed := true, recurses := true, apart := false }
def TreeCheckSaid : Prop := treeCheckRow.holds Try.pinned (OpenSpec.ofChange treeCheckSpec)

/-- ITS FALSE NEIGHBOUR: 'it returns false'. Refute it at one input. -/
def treeCheckWrong : ChangeSpec := { name := "treeCheck", fn := fun _ => fun
  | [d] => { results := [.lit (.bool false)], args := [d] }
  | _ => none }
def TreeCheckWrongFalsely : Prop := treeCheckRow.holds Try.pinned (OpenSpec.ofChange treeCheckWrong)

/-- 'frescolaw10.TreeEncode': WHATEVER THE INPUT: true; the input reads as it did. -/
def treeEncodeSpec : ChangeSpec := { name := "treeEncode", fn := fun _ => fun
  | [d] => { results := [.lit (.bool true)], args := [d] }
  | _ => none }
def treeEncodeRow : OpenClaim := { program := "ytcihihncgpddfaa", sum := "08630be2d16f8ea59689687930c444d34b6227297b9a9eb75a233bcdfd0c0d29", func := "fresco/frescolaw10.TreeEncode", spec := "treeEncode", unfollowed := true, recurses := true, apart := false }
def TreeEncodeSaid : Prop := treeEncodeRow.holds Try.pinned (OpenSpec.ofChange treeEncodeSpec)

/-- ITS FALSE NEIGHBOUR: 'it returns false'. Refute it at one input. -/
def treeEncodeWrong : ChangeSpec := { name := "treeEncode", fn := fun _ => fun
  | [d] => { results := [.lit (.bool false)], args := [d] }
  | _ => none }
def TreeEncodeWrongFalsely : Prop := treeEncodeRow.holds Try.pinned (OpenSpec.ofChange treeEncodeWrong)

/-- 'frescolaw10.TreeDecode': WHATEVER THE INPUT: true; the input reads as it did. -/
def treeDecodeSpec : ChangeSpec := { name := "treeDecode", fn := fun _ => fun
  | [d] => { results := [.lit (.bool true)], args := [d] }
  | _ => none }
def treeDecodeRow : OpenClaim := { program := "ytcihihncgpddfaa", sum := "08630be2d16f8ea59689687930c444d34b6227297b9a9eb75a233bcdfd0c0d29", func := "fresco/frescolaw10.TreeDecode", spec := "treeDecode", unfollowed := true, recurses := true, apart := false }
def TreeDecodeSaid : Prop := treeDecodeRow.holds Try.pinned (OpenSpec.ofChange treeDecodeSpec)

/-- ITS FALSE NEIGHBOUR: 'it returns false'. Refute it at one input. -/
def treeDecodeWrong : ChangeSpec := { name := "treeDecode", fn := fun _ => fun
  | [d] => { results := [.lit (.bool false)], args := [d] }
  | _ => none }
def TreeDecodeWrongFalsely : Prop := treeDecodeRow.holds Try.pinned (OpenSpec.ofChange treeDecodeWrong)

/-- 'frescolaw10.TreeWalk': WHATEVER THE INPUT: true; the input reads as it did. -/
def treeWalkSpec : ChangeSpec := { name := "treeWalk", fn := fun _ => fun
  | [d1, d2] => { results := [.lit (.bool true)], args := [d1, d2] }
  | _ => none }
def treeWalkRow : OpenClaim := { program := "ytcihihncgpddfaa", sum := "08630be2d16f8ea59689687930c444d34b6227297b9a9eb75a233bcdfd0c0d29", func := "fresco/frescolaw10.TreeWalk", spec := "treeWalk", unfollowed := true, recurses := true, apart := false }
def TreeWalkSaid : Prop := treeWalkRow.holds Try.pinned (OpenSpec.ofChange treeWalkSpec)

/-- ITS FALSE NEIGHBOUR: 'it returns false'. Refute it at one input. -/
def treeWalkWrong : ChangeSpec := { name := "treeWalk", fn := fun _ => fun
  | [d1, d2] => { results := [.lit (.bool false)], args := [d1, d2] }
  | _ => none }
def TreeWalkWrongFalsely : Prop := treeWalkRow.holds Try.pinned (OpenSpec.ofChange treeWalkWrong)

/-- 'frescolaw10.TreeNames': WHATEVER THE INPUT: true; the input reads as it did. -/
def treeNamesSpec : ChangeSpec := { name := "treeNames", fn := fun _ => fun
  | [] => { results := [.lit (.bool true)], args := [] }
  | _ => none }
def treeNamesRow : OpenClaim := { program := "ytcihihncgpddfaa", sum := "08630be2d16f8ea59689687930c444d34b6227297b9a9eb75a233bcdfd0c0d29", func := "fresco/frescolaw10.TreeNames", spec := "treeNames", unfollowed := true, recurses := true, apart := false }
def TreeNamesSaid : Prop := treeNamesRow.holds Try.pinned (OpenSpec.ofChange treeNamesSpec)

/-- ITS FALSE NEIGHBOUR: 'it returns false'. Refute it at one input. -/
def treeNamesWrong : ChangeSpec := { name := "treeNames", fn := fun _ => fun
  | [] => { results := [.lit (.bool false)], args := [] }
  | _ => none }
def TreeNamesWrongFalsely : Prop := treeNamesRow.holds Try.pinned (OpenSpec.ofChange treeNamesWrong)

/-- 'frescolaw10.TreeBack': WHATEVER THE INPUT: true; the input reads as it did. -/
def treeBackSpec : ChangeSpec := { name := "treeBack", fn := fun _ => fun
  | [d1, d2, d3] => { results := [.lit (.bool true)], args := [d1, d2, d3] }
  | _ => none }
def treeBackRow : OpenClaim := { program := "ytcihihncgpddfaa", sum := "08630be2d16f8ea59689687930c444d34b6227297b9a9eb75a233bcdfd0c0d29", func := "fresco/frescolaw10.TreeBack", spec := "treeBack", unfollowed := true, recurses := true, apart := false }
def TreeBackSaid : Prop := treeBackRow.holds Try.pinned (OpenSpec.ofChange treeBackSpec)

/-- ITS FALSE NEIGHBOUR: 'it returns false'. Refute it at one input. -/
def treeBackWrong : ChangeSpec := { name := "treeBack", fn := fun _ => fun
  | [d1, d2, d3] => { results := [.lit (.bool false)], args := [d1, d2, d3] }
  | _ => none }
def TreeBackWrongFalsely : Prop := treeBackRow.holds Try.pinned (OpenSpec.ofChange treeBackWrong)

/-- 'frescolaw10.TreeOnly': WHATEVER THE INPUT: true; the input reads as it did. -/
def treeOnlySpec : ChangeSpec := { name := "treeOnly", fn := fun _ => fun
  | [d] => { results := [.lit (.bool true)], args := [d] }
  | _ => none }
def treeOnlyRow : OpenClaim := { program := "ytcihihncgpddfaa", sum := "08630be2d16f8ea59689687930c444d34b6227297b9a9eb75a233bcdfd0c0d29", func := "fresco/frescolaw10.TreeOnly", spec := "treeOnly", unfollowed := true, recurses := true, apart := false }
def TreeOnlySaid : Prop := treeOnlyRow.holds Try.pinned (OpenSpec.ofChange treeOnlySpec)

/-- ITS FALSE NEIGHBOUR: 'it returns false'. Refute it at one input. -/
def treeOnlyWrong : ChangeSpec := { name := "treeOnly", fn := fun _ => fun
  | [d] => { results := [.lit (.bool false)], args := [d] }
  | _ => none }
def TreeOnlyWrongFalsely : Prop := treeOnlyRow.holds Try.pinned (OpenSpec.ofChange treeOnlyWrong)

/-- 'frescolaw10.TreeFind': WHATEVER THE INPUT: true; the input reads as it did. -/
def treeFindSpec : ChangeSpec := { name := "treeFind", fn := fun _ => fun
  | [d1, d2] => { results := [.lit (.bool true)], args := [d1, d2] }
  | _ => none }
def treeFindRow : OpenClaim := { program := "ytcihihncgpddfaa", sum := "08630be2d16f8ea59689687930c444d34b6227297b9a9eb75a233bcdfd0c0d29", func := "fresco/frescolaw10.TreeFind", spec := "treeFind", unfollowed := true, recurses := true, apart := false }
def TreeFindSaid : Prop := treeFindRow.holds Try.pinned (OpenSpec.ofChange treeFindSpec)

/-- ITS FALSE NEIGHBOUR: 'it returns false'. Refute it at one input. -/
def treeFindWrong : ChangeSpec := { name := "treeFind", fn := fun _ => fun
  | [d1, d2] => { results := [.lit (.bool false)], args := [d1, d2] }
  | _ => none }
def TreeFindWrongFalsely : Prop := treeFindRow.holds Try.pinned (OpenSpec.ofChange treeFindWrong)

/-- 'frescolaw10.TreeOrder': WHATEVER THE INPUT: true; the input reads as it did. -/
def treeOrderSpec : ChangeSpec := { name := "treeOrder", fn := fun _ => fun
  | [d] => { results := [.lit (.bool true)], args := [d] }
  | _ => none }
def treeOrderRow : OpenClaim := { program := "ytcihihncgpddfaa", sum := "08630be2d16f8ea59689687930c444d34b6227297b9a9eb75a233bcdfd0c0d29", func := "fresco/frescolaw10.TreeOrder", spec := "treeOrder", unfollowed := true, recurses := true, apart := false }
def TreeOrderSaid : Prop := treeOrderRow.holds Try.pinned (OpenSpec.ofChange treeOrderSpec)

/-- ITS FALSE NEIGHBOUR: 'it returns false'. Refute it at one input. -/
def treeOrderWrong : ChangeSpec := { name := "treeOrder", fn := fun _ => fun
  | [d] => { results := [.lit (.bool false)], args := [d] }
  | _ => none }
def TreeOrderWrongFalsely : Prop := treeOrderRow.holds Try.pinned (OpenSpec.ofChange treeOrderWrong)

/-- 'frescolaw10.TreeShape': WHATEVER THE INPUT: true; the input reads as it did. -/
def treeShapeSpec : ChangeSpec := { name := "treeShape", fn := fun _ => fun
  | [d] => { results := [.lit (.bool true)], args := [d] }
  | _ => none }
def treeShapeRow : OpenClaim := { program := "ytcihihncgpddfaa", sum := "08630be2d16f8ea59689687930c444d34b6227297b9a9eb75a233bcdfd0c0d29", func := "fresco/frescolaw10.TreeShape", spec := "treeShape", unfollowed := true, recurses := true, apart := false }
def TreeShapeSaid : Prop := treeShapeRow.holds Try.pinned (OpenSpec.ofChange treeShapeSpec)

/-- ITS FALSE NEIGHBOUR: 'it returns false'. Refute it at one input. -/
def treeShapeWrong : ChangeSpec := { name := "treeShape", fn := fun _ => fun
  | [d] => { results := [.lit (.bool false)], args := [d] }
  | _ => none }
def TreeShapeWrongFalsely : Prop := treeShapeRow.holds Try.pinned (OpenSpec.ofChange treeShapeWrong)

/- THE SECOND FORM. 'bulk': how many values and letters a reading holds, each counted each time it is reached (what is shared counts as often as it is met; a slice's spare places count too). A statement '..UptoSaid' is the law's where the arguments, and the package variables that the reading takes, are together of bulk at most 1048576: NARROWER than '..Said'. Prove '..Said' where nothing that the law and all that it calls make is longer than what came in: it says more and counts as full. Else prove '..UptoSaid'. A law counts once. -/
mutual
def uptoBulk {H : Type} : DataW H → Nat
  | .lit (.string bytes) => bytes.length + 1
  | .lit _ => 1
  | .nil => 1
  | .ptr d => uptoBulk d + 1
  | .slice elems spare => uptoBulkAll elems + uptoBulkAll spare + 1
  | .agg parts => uptoBulkAll parts + 1
  | .iface _ d => uptoBulk d + 1
  | .map entries => uptoBulkEntries entries + 1
  | .held _ => 1
def uptoBulkAll {H : Type} : List (DataW H) → Nat
  | [] => 0
  | d :: r => uptoBulk d + uptoBulkAll r
def uptoBulkEntries {H : Type} : List (Lit × DataW H) → Nat
  | [] => 0
  | x :: r => uptoBulkEntry x + uptoBulkEntries r
def uptoBulkEntry {H : Type} : Lit × DataW H → Nat
  | (.string bytes, d) => bytes.length + uptoBulk d + 1
  | (_, d) => uptoBulk d + 1
 end
def uptoSmall : (H : Type) → List (DataW H) → Bool := fun _ ds => decide (uptoBulkAll ds ≤ 1048576)
def OpenSpec.upto (s : _root_.Go.ChangeSpec) : _root_.Go.OpenSpec := { _root_.Go.OpenSpec.ofChange s with cond := some uptoSmall }

/-- 'frescolaw10.TreeCheck', WHERE WHAT IT READS IS OF BULK AT MOST 1048576: true; the input reads as it did. -/
def treeCheckUptoRow : OpenClaim := { program := "ytcihihncgpddfaa", sum := "08630be2d16f8ea59689687930c444d34b6227297b9a9eb75a233bcdfd0c0d29", func := "fresco/frescolaw10.TreeCheck", spec := "treeCheck", unfollowed := true, recurses := true, apart := false, narrowed := true }
def TreeCheckUptoSaid : Prop := treeCheckUptoRow.holds Try.pinned (OpenSpec.upto treeCheckSpec)

/-- 'frescolaw10.TreeEncode', WHERE WHAT IT READS IS OF BULK AT MOST 1048576: true; the input reads as it did. -/
def treeEncodeUptoRow : OpenClaim := { program := "ytcihihncgpddfaa", sum := "08630be2d16f8ea59689687930c444d34b6227297b9a9eb75a233bcdfd0c0d29", func := "fresco/frescolaw10.TreeEncode", spec := "treeEncode", unfollowed := true, recurses := true, apart := false, narrowed := true }
def TreeEncodeUptoSaid : Prop := treeEncodeUptoRow.holds Try.pinned (OpenSpec.upto treeEncodeSpec)

/-- 'frescolaw10.TreeDecode', WHERE WHAT IT READS IS OF BULK AT MOST 1048576: true; the input reads as it did. -/
def treeDecodeUptoRow : OpenClaim := { program := "ytcihihncgpddfaa", sum := "08630be2d16f8ea59689687930c444d34b6227297b9a9eb75a233bcdfd0c0d29", func := "fresco/frescolaw10.TreeDecode", spec := "treeDecode", unfollowed := true, recurses := true, apart := false, narrowed := true }
def TreeDecodeUptoSaid : Prop := treeDecodeUptoRow.holds Try.pinned (OpenSpec.upto treeDecodeSpec)

/-- 'frescolaw10.TreeWalk', WHERE WHAT IT READS IS OF BULK AT MOST 1048576: true; the input reads as it did. -/
def treeWalkUptoRow : OpenClaim := { program := "ytcihihncgpddfaa", sum := "08630be2d16f8ea59689687930c444d34b6227297b9a9eb75a233bcdfd0c0d29", func := "fresco/frescolaw10.TreeWalk", spec := "treeWalk", unfollowed := true, recurses := true, apart := false, narrowed := true }
def TreeWalkUptoSaid : Prop := treeWalkUptoRow.holds Try.pinned (OpenSpec.upto treeWalkSpec)

/-- 'frescolaw10.TreeNames', WHERE WHAT IT READS IS OF BULK AT MOST 1048576: true; the input reads as it did. -/
def treeNamesUptoRow : OpenClaim := { program := "ytcihihncgpddfaa", sum := "08630be2d16f8ea59689687930c444d34b6227297b9a9eb75a233bcdfd0c0d29", func := "fresco/frescolaw10.TreeNames", spec := "treeNames", unfollowed := true, recurses := true, apart := false, narrowed := true }
def TreeNamesUptoSaid : Prop := treeNamesUptoRow.holds Try.pinned (OpenSpec.upto treeNamesSpec)

/-- 'frescolaw10.TreeBack', WHERE WHAT IT READS IS OF BULK AT MOST 1048576: true; the input reads as it did. -/
def treeBackUptoRow : OpenClaim := { program := "ytcihihncgpddfaa", sum := "08630be2d16f8ea59689687930c444d34b6227297b9a9eb75a233bcdfd0c0d29", func := "fresco/frescolaw10.TreeBack", spec := "treeBack", unfollowed := true, recurses := true, apart := false, narrowed := true }
def TreeBackUptoSaid : Prop := treeBackUptoRow.holds Try.pinned (OpenSpec.upto treeBackSpec)

/-- 'frescolaw10.TreeOnly', WHERE WHAT IT READS IS OF BULK AT MOST 1048576: true; the input reads as it did. -/
def treeOnlyUptoRow : OpenClaim := { program := "ytcihihncgpddfaa", sum := "08630be2d16f8ea59689687930c444d34b6227297b9a9eb75a233bcdfd0c0d29", func := "fresco/frescolaw10.TreeOnly", spec := "treeOnly", unfollowed := true, recurses := true, apart := false, narrowed := true }
def TreeOnlyUptoSaid : Prop := treeOnlyUptoRow.holds Try.pinned (OpenSpec.upto treeOnlySpec)

/-- 'frescolaw10.TreeFind', WHERE WHAT IT READS IS OF BULK AT MOST 1048576: true; the input reads as it did. -/
def treeFindUptoRow : OpenClaim := { program := "ytcihihncgpddfaa", sum := "08630be2d16f8ea59689687930c444d34b6227297b9a9eb75a233bcdfd0c0d29", func := "fresco/frescolaw10.TreeFind", spec := "treeFind", unfollowed := true, recurses := true, apart := false, narrowed := true }
def TreeFindUptoSaid : Prop := treeFindUptoRow.holds Try.pinned (OpenSpec.upto treeFindSpec)

/-- 'frescolaw10.TreeOrder', WHERE WHAT IT READS IS OF BULK AT MOST 1048576: true; the input reads as it did. -/
def treeOrderUptoRow : OpenClaim := { program := "ytcihihncgpddfaa", sum := "08630be2d16f8ea59689687930c444d34b6227297b9a9eb75a233bcdfd0c0d29", func := "fresco/frescolaw10.TreeOrder", spec := "treeOrder", unfollowed := true, recurses := true, apart := false, narrowed := true }
def TreeOrderUptoSaid : Prop := treeOrderUptoRow.holds Try.pinned (OpenSpec.upto treeOrderSpec)

/-- 'frescolaw10.TreeShape', WHERE WHAT IT READS IS OF BULK AT MOST 1048576: true; the input reads as it did. -/
def treeShapeUptoRow : OpenClaim := { program := "ytcihihncgpddfaa", sum := "08630be2d16f8ea59689687930c444d34b6227297b9a9eb75a233bcdfd0c0d29", func := "fresco/frescolaw10.TreeShape", spec := "treeShape", unfollowed := true, recurses := true, apart := false, narrowed := true }
def TreeShapeUptoSaid : Prop := treeShapeUptoRow.holds Try.pinned (OpenSpec.upto treeShapeSpec)

end Rows
end Go.Proofs.Ytcihihncgpddfaa
