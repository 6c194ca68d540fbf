/-
  No cell of these rows narrows 'for every input' (looked for: loops, veiled, ifaces, maps, wideKeys, modest, calm, conditions, laid).
  DERIVED. THE GIVEN ROWS OF THIS SEAT. 11 by the template 'for every input the law returns true; each argument reads behind the call as it read before'; 0 by the template 'total and deterministic' (their statements: YtebalohoblaedaaTotals.lean).
  GIVEN WITH THE SEED: the statements are not yours to turn. If you find one false, say at which input.
  Laid BY PROGRAM, IN A SANDBOX (cutbox-rows.mjs): the forced cells as the released guide's own fill.sh prints them over the translation ab4f0dcc149d51fc… (all of the seat's roots in one cut). By AI agents, Wed Nov 11 2026. No macro, syntax, notation, axiom, sorry.
-/
import Derived.Test.YtebalohoblaedaaChecked
import GoSem.Claim
import GoSem.ClaimJoined
import GoSem.ClaimMapViews
import Derived.JoinedTies
import Derived.KernelRfl
namespace Go.Proofs.Ytebalohoblaedaa
/- THE CELL 'sum', in the pinned program and in every row, IS THE sha256 OF THE DUMP (.gsa) THAT YtebalohoblaedaaProg.lean LOADS. Nothing in Lean hashes anything: it is a label: what it is worth is what the hold of that sum in a sandbox is worth. -/
noncomputable def Try.pinned : Pinned := { name := "ytebalohoblaedaa", sum := "ab4f0dcc149d51fc05aaa93feb0218860bbb84fd17ecd39b3659c516b3f2d262", checked := Try.checked }
namespace Rows
def none {H : Type} : Left H := { results := [], args := [] }

/-- 'frescolaw13.GlyphRune': WHATEVER THE INPUT: true; the input reads as it did. -/
def glyphRuneSpec : ChangeSpec := { name := "glyphRune", fn := fun _ => fun
  | [d] => { results := [.lit (.bool true)], args := [d] }
  | _ => none }
def glyphRuneRow : OpenClaim := { program := "ytebalohoblaedaa", sum := "ab4f0dcc149d51fc05aaa93feb0218860bbb84fd17ecd39b3659c516b3f2d262", func := "fresco/frescolaw13.GlyphRune", spec := "glyphRune", inPlace := ["internal/bytealg.IndexByteString"], apart := false }
def GlyphRuneSaid : Prop := glyphRuneRow.holds Try.pinned (OpenSpec.ofChange glyphRuneSpec)

/-- ITS FALSE NEIGHBOUR: 'it returns false'. Refute it at one input. -/
def glyphRuneWrong : ChangeSpec := { name := "glyphRune", fn := fun _ => fun
  | [d] => { results := [.lit (.bool false)], args := [d] }
  | _ => none }
def GlyphRuneWrongFalsely : Prop := glyphRuneRow.holds Try.pinned (OpenSpec.ofChange glyphRuneWrong)

/-- 'frescolaw13.GlyphTable': WHATEVER THE INPUT: true; the input reads as it did. -/
def glyphTableSpec : ChangeSpec := { name := "glyphTable", fn := fun _ => fun
  | [] => { results := [.lit (.bool true)], args := [] }
  | _ => none }
def glyphTableRow : OpenClaim := { program := "ytebalohoblaedaa", sum := "ab4f0dcc149d51fc05aaa93feb0218860bbb84fd17ecd39b3659c516b3f2d262", func := "fresco/frescolaw13.GlyphTable", spec := "glyphTable", inPlace := ["internal/bytealg.IndexByteString"], apart := false }
def GlyphTableSaid : Prop := glyphTableRow.holds Try.pinned (OpenSpec.ofChange glyphTableSpec)

/-- ITS FALSE NEIGHBOUR: 'it returns false'. Refute it at one input. -/
def glyphTableWrong : ChangeSpec := { name := "glyphTable", fn := fun _ => fun
  | [] => { results := [.lit (.bool false)], args := [] }
  | _ => none }
def GlyphTableWrongFalsely : Prop := glyphTableRow.holds Try.pinned (OpenSpec.ofChange glyphTableWrong)

/-- 'frescolaw13.GlyphOf': WHATEVER THE INPUT: true; the input reads as it did. -/
def glyphOfSpec : ChangeSpec := { name := "glyphOf", fn := fun _ => fun
  | [d] => { results := [.lit (.bool true)], args := [d] }
  | _ => none }
def glyphOfRow : OpenClaim := { program := "ytebalohoblaedaa", sum := "ab4f0dcc149d51fc05aaa93feb0218860bbb84fd17ecd39b3659c516b3f2d262", func := "fresco/frescolaw13.GlyphOf", spec := "glyphOf", inPlace := ["internal/bytealg.IndexByteString"], apart := false }
def GlyphOfSaid : Prop := glyphOfRow.holds Try.pinned (OpenSpec.ofChange glyphOfSpec)

/-- ITS FALSE NEIGHBOUR: 'it returns false'. Refute it at one input. -/
def glyphOfWrong : ChangeSpec := { name := "glyphOf", fn := fun _ => fun
  | [d] => { results := [.lit (.bool false)], args := [d] }
  | _ => none }
def GlyphOfWrongFalsely : Prop := glyphOfRow.holds Try.pinned (OpenSpec.ofChange glyphOfWrong)

/-- 'frescolaw13.GlyphMerge': WHATEVER THE INPUT: true; the input reads as it did. -/
def glyphMergeSpec : ChangeSpec := { name := "glyphMerge", fn := fun _ => fun
  | [d] => { results := [.lit (.bool true)], args := [d] }
  | _ => none }
def glyphMergeRow : OpenClaim := { program := "ytebalohoblaedaa", sum := "ab4f0dcc149d51fc05aaa93feb0218860bbb84fd17ecd39b3659c516b3f2d262", func := "fresco/frescolaw13.GlyphMerge", spec := "glyphMerge", inPlace := ["internal/bytealg.IndexByteString"], apart := false }
def GlyphMergeSaid : Prop := glyphMergeRow.holds Try.pinned (OpenSpec.ofChange glyphMergeSpec)

/-- ITS FALSE NEIGHBOUR: 'it returns false'. Refute it at one input. -/
def glyphMergeWrong : ChangeSpec := { name := "glyphMerge", fn := fun _ => fun
  | [d] => { results := [.lit (.bool false)], args := [d] }
  | _ => none }
def GlyphMergeWrongFalsely : Prop := glyphMergeRow.holds Try.pinned (OpenSpec.ofChange glyphMergeWrong)

/-- 'frescolaw13.GlyphNew': WHATEVER THE INPUT: true; the input reads as it did. -/
def glyphNewSpec : ChangeSpec := { name := "glyphNew", fn := fun _ => fun
  | [d1, d2] => { results := [.lit (.bool true)], args := [d1, d2] }
  | _ => none }
def glyphNewRow : OpenClaim := { program := "ytebalohoblaedaa", sum := "ab4f0dcc149d51fc05aaa93feb0218860bbb84fd17ecd39b3659c516b3f2d262", func := "fresco/frescolaw13.GlyphNew", spec := "glyphNew", inPlace := ["internal/bytealg.IndexByteString"], apart := false }
def GlyphNewSaid : Prop := glyphNewRow.holds Try.pinned (OpenSpec.ofChange glyphNewSpec)

/-- ITS FALSE NEIGHBOUR: 'it returns false'. Refute it at one input. -/
def glyphNewWrong : ChangeSpec := { name := "glyphNew", fn := fun _ => fun
  | [d1, d2] => { results := [.lit (.bool false)], args := [d1, d2] }
  | _ => none }
def GlyphNewWrongFalsely : Prop := glyphNewRow.holds Try.pinned (OpenSpec.ofChange glyphNewWrong)

/-- 'frescolaw13.GlyphNames': WHATEVER THE INPUT: true; the input reads as it did. -/
def glyphNamesSpec : ChangeSpec := { name := "glyphNames", fn := fun _ => fun
  | [] => { results := [.lit (.bool true)], args := [] }
  | _ => none }
def glyphNamesRow : OpenClaim := { program := "ytebalohoblaedaa", sum := "ab4f0dcc149d51fc05aaa93feb0218860bbb84fd17ecd39b3659c516b3f2d262", func := "fresco/frescolaw13.GlyphNames", spec := "glyphNames", inPlace := ["internal/bytealg.IndexByteString"], apart := false }
def GlyphNamesSaid : Prop := glyphNamesRow.holds Try.pinned (OpenSpec.ofChange glyphNamesSpec)

/-- ITS FALSE NEIGHBOUR: 'it returns false'. Refute it at one input. -/
def glyphNamesWrong : ChangeSpec := { name := "glyphNames", fn := fun _ => fun
  | [] => { results := [.lit (.bool false)], args := [] }
  | _ => none }
def GlyphNamesWrongFalsely : Prop := glyphNamesRow.holds Try.pinned (OpenSpec.ofChange glyphNamesWrong)

/-- 'frescolaw13.GlyphBack': WHATEVER THE INPUT: true; the input reads as it did. -/
def glyphBackSpec : ChangeSpec := { name := "glyphBack", fn := fun _ => fun
  | [d1, d2, d3] => { results := [.lit (.bool true)], args := [d1, d2, d3] }
  | _ => none }
def glyphBackRow : OpenClaim := { program := "ytebalohoblaedaa", sum := "ab4f0dcc149d51fc05aaa93feb0218860bbb84fd17ecd39b3659c516b3f2d262", func := "fresco/frescolaw13.GlyphBack", spec := "glyphBack", inPlace := ["internal/bytealg.IndexByteString"], apart := false }
def GlyphBackSaid : Prop := glyphBackRow.holds Try.pinned (OpenSpec.ofChange glyphBackSpec)

/-- ITS FALSE NEIGHBOUR: 'it returns false'. Refute it at one input. -/
def glyphBackWrong : ChangeSpec := { name := "glyphBack", fn := fun _ => fun
  | [d1, d2, d3] => { results := [.lit (.bool false)], args := [d1, d2, d3] }
  | _ => none }
def GlyphBackWrongFalsely : Prop := glyphBackRow.holds Try.pinned (OpenSpec.ofChange glyphBackWrong)

/-- 'frescolaw13.GlyphBoxes': WHATEVER THE INPUT: true; the input reads as it did. -/
def glyphBoxesSpec : ChangeSpec := { name := "glyphBoxes", fn := fun _ => fun
  | [d1, d2, d3] => { results := [.lit (.bool true)], args := [d1, d2, d3] }
  | _ => none }
def glyphBoxesRow : OpenClaim := { program := "ytebalohoblaedaa", sum := "ab4f0dcc149d51fc05aaa93feb0218860bbb84fd17ecd39b3659c516b3f2d262", func := "fresco/frescolaw13.GlyphBoxes", spec := "glyphBoxes", inPlace := ["internal/bytealg.IndexByteString"], apart := false }
def GlyphBoxesSaid : Prop := glyphBoxesRow.holds Try.pinned (OpenSpec.ofChange glyphBoxesSpec)

/-- ITS FALSE NEIGHBOUR: 'it returns false'. Refute it at one input. -/
def glyphBoxesWrong : ChangeSpec := { name := "glyphBoxes", fn := fun _ => fun
  | [d1, d2, d3] => { results := [.lit (.bool false)], args := [d1, d2, d3] }
  | _ => none }
def GlyphBoxesWrongFalsely : Prop := glyphBoxesRow.holds Try.pinned (OpenSpec.ofChange glyphBoxesWrong)

/-- 'frescolaw13.GlyphScripts': WHATEVER THE INPUT: true; the input reads as it did. -/
def glyphScriptsSpec : ChangeSpec := { name := "glyphScripts", fn := fun _ => fun
  | [d1, d2] => { results := [.lit (.bool true)], args := [d1, d2] }
  | _ => none }
def glyphScriptsRow : OpenClaim := { program := "ytebalohoblaedaa", sum := "ab4f0dcc149d51fc05aaa93feb0218860bbb84fd17ecd39b3659c516b3f2d262", func := "fresco/frescolaw13.GlyphScripts", spec := "glyphScripts", inPlace := ["internal/bytealg.IndexByteString", "internal/abi.NoEscape"], apart := false }
def GlyphScriptsSaid : Prop := glyphScriptsRow.holds Try.pinned (OpenSpec.ofChange glyphScriptsSpec)

/-- ITS FALSE NEIGHBOUR: 'it returns false'. Refute it at one input. -/
def glyphScriptsWrong : ChangeSpec := { name := "glyphScripts", fn := fun _ => fun
  | [d1, d2] => { results := [.lit (.bool false)], args := [d1, d2] }
  | _ => none }
def GlyphScriptsWrongFalsely : Prop := glyphScriptsRow.holds Try.pinned (OpenSpec.ofChange glyphScriptsWrong)

/-- 'frescolaw13.GlyphNil': WHATEVER THE INPUT: true; the input reads as it did. -/
def glyphNilSpec : ChangeSpec := { name := "glyphNil", fn := fun _ => fun
  | [d] => { results := [.lit (.bool true)], args := [d] }
  | _ => none }
def glyphNilRow : OpenClaim := { program := "ytebalohoblaedaa", sum := "ab4f0dcc149d51fc05aaa93feb0218860bbb84fd17ecd39b3659c516b3f2d262", func := "fresco/frescolaw13.GlyphNil", spec := "glyphNil", inPlace := ["internal/bytealg.IndexByteString", "internal/abi.NoEscape"], apart := false }
def GlyphNilSaid : Prop := glyphNilRow.holds Try.pinned (OpenSpec.ofChange glyphNilSpec)

/-- ITS FALSE NEIGHBOUR: 'it returns false'. Refute it at one input. -/
def glyphNilWrong : ChangeSpec := { name := "glyphNil", fn := fun _ => fun
  | [d] => { results := [.lit (.bool false)], args := [d] }
  | _ => none }
def GlyphNilWrongFalsely : Prop := glyphNilRow.holds Try.pinned (OpenSpec.ofChange glyphNilWrong)

/-- 'frescolaw13.GlyphOrder': WHATEVER THE INPUT: true; the input reads as it did. -/
def glyphOrderSpec : ChangeSpec := { name := "glyphOrder", fn := fun _ => fun
  | [d1, d2, d3] => { results := [.lit (.bool true)], args := [d1, d2, d3] }
  | _ => none }
def glyphOrderRow : OpenClaim := { program := "ytebalohoblaedaa", sum := "ab4f0dcc149d51fc05aaa93feb0218860bbb84fd17ecd39b3659c516b3f2d262", func := "fresco/frescolaw13.GlyphOrder", spec := "glyphOrder", inPlace := ["internal/bytealg.IndexByteString", "internal/abi.NoEscape"], apart := false }
def GlyphOrderSaid : Prop := glyphOrderRow.holds Try.pinned (OpenSpec.ofChange glyphOrderSpec)

/-- ITS FALSE NEIGHBOUR: 'it returns false'. Refute it at one input. -/
def glyphOrderWrong : ChangeSpec := { name := "glyphOrder", fn := fun _ => fun
  | [d1, d2, d3] => { results := [.lit (.bool false)], args := [d1, d2, d3] }
  | _ => none }
def GlyphOrderWrongFalsely : Prop := glyphOrderRow.holds Try.pinned (OpenSpec.ofChange glyphOrderWrong)

/- THE SECOND FORM. 'bulk': how many values and letters a reading holds, each counted each time it is reached (what is shared counts as often as it is met; a slice's spare places count too). A statement '..UptoSaid' is the law's where the arguments, and the package variables that the reading takes, are together of bulk at most 1048576: NARROWER than '..Said'. Prove '..Said' where nothing that the law and all that it calls make is longer than what came in: it says more and counts as full. Else prove '..UptoSaid'. A law counts once. -/
mutual
def uptoBulk {H : Type} : DataW H → Nat
  | .lit (.string bytes) => bytes.length + 1
  | .lit _ => 1
  | .nil => 1
  | .ptr d => uptoBulk d + 1
  | .slice elems spare => uptoBulkAll elems + uptoBulkAll spare + 1
  | .agg parts => uptoBulkAll parts + 1
  | .iface _ d => uptoBulk d + 1
  | .map entries => uptoBulkEntries entries + 1
  | .held _ => 1
def uptoBulkAll {H : Type} : List (DataW H) → Nat
  | [] => 0
  | d :: r => uptoBulk d + uptoBulkAll r
def uptoBulkEntries {H : Type} : List (Lit × DataW H) → Nat
  | [] => 0
  | x :: r => uptoBulkEntry x + uptoBulkEntries r
def uptoBulkEntry {H : Type} : Lit × DataW H → Nat
  | (.string bytes, d) => bytes.length + uptoBulk d + 1
  | (_, d) => uptoBulk d + 1
 end
def uptoSmall : (H : Type) → List (DataW H) → Bool := fun _ ds => decide (uptoBulkAll ds ≤ 1048576)
def OpenSpec.upto (s : _root_.Go.ChangeSpec) : _root_.Go.OpenSpec := { _root_.Go.OpenSpec.ofChange s with cond := some uptoSmall }

/-- 'frescolaw13.GlyphRune', WHERE WHAT IT READS IS OF BULK AT MOST 1048576: true; the input reads as it did. -/
def glyphRuneUptoRow : OpenClaim := { program := "ytebalohoblaedaa", sum := "ab4f0dcc149d51fc05aaa93feb0218860bbb84fd17ecd39b3659c516b3f2d262", func := "fresco/frescolaw13.GlyphRune", spec := "glyphRune", inPlace := ["internal/bytealg.IndexByteString"], apart := false, narrowed := true }
def GlyphRuneUptoSaid : Prop := glyphRuneUptoRow.holds Try.pinned (OpenSpec.upto glyphRuneSpec)

/-- 'frescolaw13.GlyphTable', WHERE WHAT IT READS IS OF BULK AT MOST 1048576: true; the input reads as it did. -/
def glyphTableUptoRow : OpenClaim := { program := "ytebalohoblaedaa", sum := "ab4f0dcc149d51fc05aaa93feb0218860bbb84fd17ecd39b3659c516b3f2d262", func := "fresco/frescolaw13.GlyphTable", spec := "glyphTable", inPlace := ["internal/bytealg.IndexByteString"], apart := false, narrowed := true }
def GlyphTableUptoSaid : Prop := glyphTableUptoRow.holds Try.pinned (OpenSpec.upto glyphTableSpec)

/-- 'frescolaw13.GlyphOf', WHERE WHAT IT READS IS OF BULK AT MOST 1048576: true; the input reads as it did. -/
def glyphOfUptoRow : OpenClaim := { program := "ytebalohoblaedaa", sum := "ab4f0dcc149d51fc05aaa93feb0218860bbb84fd17ecd39b3659c516b3f2d262", func := "fresco/frescolaw13.GlyphOf", spec := "glyphOf", inPlace := ["internal/bytealg.IndexByteString"], apart := false, narrowed := true }
def GlyphOfUptoSaid : Prop := glyphOfUptoRow.holds Try.pinned (OpenSpec.upto glyphOfSpec)

/-- 'frescolaw13.GlyphMerge', WHERE WHAT IT READS IS OF BULK AT MOST 1048576: true; the input reads as it did. -/
def glyphMergeUptoRow : OpenClaim := { program := "ytebalohoblaedaa", sum := "ab4f0dcc149d51fc05aaa93feb0218860bbb84fd17ecd39b3659c516b3f2d262", func := "fresco/frescolaw13.GlyphMerge", spec := "glyphMerge", inPlace := ["internal/bytealg.IndexByteString"], apart := false, narrowed := true }
def GlyphMergeUptoSaid : Prop := glyphMergeUptoRow.holds Try.pinned (OpenSpec.upto glyphMergeSpec)

/-- 'frescolaw13.GlyphNew', WHERE WHAT IT READS IS OF BULK AT MOST 1048576: true; the input reads as it did. -/
def glyphNewUptoRow : OpenClaim := { program := "ytebalohoblaedaa", sum := "ab4f0dcc149d51fc05aaa93feb0218860bbb84fd17ecd39b3659c516b3f2d262", func := "fresco/frescolaw13.GlyphNew", spec := "glyphNew", inPlace := ["internal/bytealg.IndexByteString"], apart := false, narrowed := true }
def GlyphNewUptoSaid : Prop := glyphNewUptoRow.holds Try.pinned (OpenSpec.upto glyphNewSpec)

/-- 'frescolaw13.GlyphNames', WHERE WHAT IT READS IS OF BULK AT MOST 1048576: true; the input reads as it did. -/
def glyphNamesUptoRow : OpenClaim := { program := "ytebalohoblaedaa", sum := "ab4f0dcc149d51fc05aaa93feb0218860bbb84fd17ecd39b3659c516b3f2d262", func := "fresco/frescolaw13.GlyphNames", spec := "glyphNames", inPlace := ["internal/bytealg.IndexByteString"], apart := false, narrowed := true }
def GlyphNamesUptoSaid : Prop := glyphNamesUptoRow.holds Try.pinned (OpenSpec.upto glyphNamesSpec)

/-- 'frescolaw13.GlyphBack', WHERE WHAT IT READS IS OF BULK AT MOST 1048576: true; the input reads as it did. -/
def glyphBackUptoRow : OpenClaim := { program := "ytebalohoblaedaa", sum := "ab4f0dcc149d51fc05aaa93feb0218860bbb84fd17ecd39b3659c516b3f2d262", func := "fresco/frescolaw13.GlyphBack", spec := "glyphBack", inPlace := ["internal/bytealg.IndexByteString"], apart := false, narrowed := true }
def GlyphBackUptoSaid : Prop := glyphBackUptoRow.holds Try.pinned (OpenSpec.upto glyphBackSpec)

/-- 'frescolaw13.GlyphBoxes', WHERE WHAT IT READS IS OF BULK AT MOST 1048576: true; the input reads as it did. -/
def glyphBoxesUptoRow : OpenClaim := { program := "ytebalohoblaedaa", sum := "ab4f0dcc149d51fc05aaa93feb0218860bbb84fd17ecd39b3659c516b3f2d262", func := "fresco/frescolaw13.GlyphBoxes", spec := "glyphBoxes", inPlace := ["internal/bytealg.IndexByteString"], apart := false, narrowed := true }
def GlyphBoxesUptoSaid : Prop := glyphBoxesUptoRow.holds Try.pinned (OpenSpec.upto glyphBoxesSpec)

/-- 'frescolaw13.GlyphScripts', WHERE WHAT IT READS IS OF BULK AT MOST 1048576: true; the input reads as it did. -/
def glyphScriptsUptoRow : OpenClaim := { program := "ytebalohoblaedaa", sum := "ab4f0dcc149d51fc05aaa93feb0218860bbb84fd17ecd39b3659c516b3f2d262", func := "fresco/frescolaw13.GlyphScripts", spec := "glyphScripts", inPlace := ["internal/bytealg.IndexByteString", "internal/abi.NoEscape"], apart := false, narrowed := true }
def GlyphScriptsUptoSaid : Prop := glyphScriptsUptoRow.holds Try.pinned (OpenSpec.upto glyphScriptsSpec)

/-- 'frescolaw13.GlyphNil', WHERE WHAT IT READS IS OF BULK AT MOST 1048576: true; the input reads as it did. -/
def glyphNilUptoRow : OpenClaim := { program := "ytebalohoblaedaa", sum := "ab4f0dcc149d51fc05aaa93feb0218860bbb84fd17ecd39b3659c516b3f2d262", func := "fresco/frescolaw13.GlyphNil", spec := "glyphNil", inPlace := ["internal/bytealg.IndexByteString", "internal/abi.NoEscape"], apart := false, narrowed := true }
def GlyphNilUptoSaid : Prop := glyphNilUptoRow.holds Try.pinned (OpenSpec.upto glyphNilSpec)

/-- 'frescolaw13.GlyphOrder', WHERE WHAT IT READS IS OF BULK AT MOST 1048576: true; the input reads as it did. -/
def glyphOrderUptoRow : OpenClaim := { program := "ytebalohoblaedaa", sum := "ab4f0dcc149d51fc05aaa93feb0218860bbb84fd17ecd39b3659c516b3f2d262", func := "fresco/frescolaw13.GlyphOrder", spec := "glyphOrder", inPlace := ["internal/bytealg.IndexByteString", "internal/abi.NoEscape"], apart := false, narrowed := true }
def GlyphOrderUptoSaid : Prop := glyphOrderUptoRow.holds Try.pinned (OpenSpec.upto glyphOrderSpec)

end Rows
end Go.Proofs.Ytebalohoblaedaa
