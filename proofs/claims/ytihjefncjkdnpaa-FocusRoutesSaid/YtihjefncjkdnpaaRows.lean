/-
  No cell of these rows narrows 'for every input' (looked for: loops, veiled, ifaces, maps, wideKeys, modest, calm, conditions, laid).
  DERIVED. THE GIVEN ROWS OF THIS SEAT. 7 by the template 'for every input the law returns true; each argument reads behind the call as it read before'; 0 by the template 'total and deterministic' (their statements: YtihjefncjkdnpaaTotals.lean).
  GIVEN WITH THE SEED: the statements are not yours to turn. If you find one false, say at which input.
  Laid BY PROGRAM, IN A SANDBOX (cutbox-rows.mjs): the forced cells as the released guide's own fill.sh prints them over the translation d86bd5430cb59c10… (all of the seat's roots in one cut). By AI agents, Wed Nov 11 2026. No macro, syntax, notation, axiom, sorry.
-/
import Derived.Test.YtihjefncjkdnpaaChecked
import GoSem.Claim
import GoSem.ClaimJoined
import GoSem.ClaimMapViews
import Derived.JoinedTies
import Derived.KernelRfl
namespace Go.Proofs.Ytihjefncjkdnpaa
/- THE CELL 'sum', in the pinned program and in every row, IS THE sha256 OF THE DUMP (.gsa) THAT YtihjefncjkdnpaaProg.lean LOADS. Nothing in Lean hashes anything: it is a label: what it is worth is what the hold of that sum in a sandbox is worth. -/
noncomputable def Try.pinned : Pinned := { name := "ytihjefncjkdnpaa", sum := "d86bd5430cb59c10b4728c6568a7190839fe571e974a6dac4100be2b27a0f81b", checked := Try.checked }
namespace Rows
def none {H : Type} : Left H := { results := [], args := [] }

/-- 'frescolaw23.FocusOrders': WHATEVER THE INPUT: true; the input reads as it did. -/
def focusOrdersSpec : ChangeSpec := { name := "focusOrders", fn := fun _ => fun
  | [d1, d2, d3, d4] => { results := [.lit (.bool true)], args := [d1, d2, d3, d4] }
  | _ => none }
def focusOrdersRow : OpenClaim := { program := "ytihjefncjkdnpaa", sum := "d86bd5430cb59c10b4728c6568a7190839fe571e974a6dac4100be2b27a0f81b", func := "fresco/frescolaw23.FocusOrders", spec := "focusOrders", unfollowed := true, recurses := true, apart := false }
def FocusOrdersSaid : Prop := focusOrdersRow.holds Try.pinned (OpenSpec.ofChange focusOrdersSpec)

/-- ITS FALSE NEIGHBOUR: 'it returns false'. Refute it at one input. -/
def focusOrdersWrong : ChangeSpec := { name := "focusOrders", fn := fun _ => fun
  | [d1, d2, d3, d4] => { results := [.lit (.bool false)], args := [d1, d2, d3, d4] }
  | _ => none }
def FocusOrdersWrongFalsely : Prop := focusOrdersRow.holds Try.pinned (OpenSpec.ofChange focusOrdersWrong)

/-- 'frescolaw23.FocusCarries': WHATEVER THE INPUT: true; the input reads as it did. -/
def focusCarriesSpec : ChangeSpec := { name := "focusCarries", fn := fun _ => fun
  | [d1, d2, d3] => { results := [.lit (.bool true)], args := [d1, d2, d3] }
  | _ => none }
def focusCarriesRow : OpenClaim := { program := "ytihjefncjkdnpaa", sum := "d86bd5430cb59c10b4728c6568a7190839fe571e974a6dac4100be2b27a0f81b", func := "fresco/frescolaw23.FocusCarries", spec := "focusCarries", unfollowed := true, recurses := true, apart := false }
def FocusCarriesSaid : Prop := focusCarriesRow.holds Try.pinned (OpenSpec.ofChange focusCarriesSpec)

/-- ITS FALSE NEIGHBOUR: 'it returns false'. Refute it at one input. -/
def focusCarriesWrong : ChangeSpec := { name := "focusCarries", fn := fun _ => fun
  | [d1, d2, d3] => { results := [.lit (.bool false)], args := [d1, d2, d3] }
  | _ => none }
def FocusCarriesWrongFalsely : Prop := focusCarriesRow.holds Try.pinned (OpenSpec.ofChange focusCarriesWrong)

/-- 'frescolaw23.FocusRoutes': WHATEVER THE INPUT: true; the input reads as it did. -/
def focusRoutesSpec : ChangeSpec := { name := "focusRoutes", fn := fun _ => fun
  | [d1, d2] => { results := [.lit (.bool true)], args := [d1, d2] }
  | _ => none }
def focusRoutesRow : OpenClaim := { program := "ytihjefncjkdnpaa", sum := "d86bd5430cb59c10b4728c6568a7190839fe571e974a6dac4100be2b27a0f81b", func := "fresco/frescolaw23.FocusRoutes", spec := "focusRoutes", unfollowed := true, recurses := true, apart := false }
def FocusRoutesSaid : Prop := focusRoutesRow.holds Try.pinned (OpenSpec.ofChange focusRoutesSpec)

/-- ITS FALSE NEIGHBOUR: 'it returns false'. Refute it at one input. -/
def focusRoutesWrong : ChangeSpec := { name := "focusRoutes", fn := fun _ => fun
  | [d1, d2] => { results := [.lit (.bool false)], args := [d1, d2] }
  | _ => none }
def FocusRoutesWrongFalsely : Prop := focusRoutesRow.holds Try.pinned (OpenSpec.ofChange focusRoutesWrong)

/-- 'frescolaw23.FocusRound': WHATEVER THE INPUT: true; the input reads as it did. -/
def focusRoundSpec : ChangeSpec := { name := "focusRound", fn := fun _ => fun
  | [d1, d2, d3] => { results := [.lit (.bool true)], args := [d1, d2, d3] }
  | _ => none }
def focusRoundRow : OpenClaim := { program := "ytihjefncjkdnpaa", sum := "d86bd5430cb59c10b4728c6568a7190839fe571e974a6dac4100be2b27a0f81b", func := "fresco/frescolaw23.FocusRound", spec := "focusRound", unfollowed := true, recurses := true, apart := false }
def FocusRoundSaid : Prop := focusRoundRow.holds Try.pinned (OpenSpec.ofChange focusRoundSpec)

/-- ITS FALSE NEIGHBOUR: 'it returns false'. Refute it at one input. -/
def focusRoundWrong : ChangeSpec := { name := "focusRound", fn := fun _ => fun
  | [d1, d2, d3] => { results := [.lit (.bool false)], args := [d1, d2, d3] }
  | _ => none }
def FocusRoundWrongFalsely : Prop := focusRoundRow.holds Try.pinned (OpenSpec.ofChange focusRoundWrong)

/-- 'frescolaw23.FocusNears': WHATEVER THE INPUT: true; the input reads as it did. -/
def focusNearsSpec : ChangeSpec := { name := "focusNears", fn := fun _ => fun
  | [d1, d2, d3, d4] => { results := [.lit (.bool true)], args := [d1, d2, d3, d4] }
  | _ => none }
def focusNearsRow : OpenClaim := { program := "ytihjefncjkdnpaa", sum := "d86bd5430cb59c10b4728c6568a7190839fe571e974a6dac4100be2b27a0f81b", func := "fresco/frescolaw23.FocusNears", spec := "focusNears", unfollowed := true, recurses := true, apart := false }
def FocusNearsSaid : Prop := focusNearsRow.holds Try.pinned (OpenSpec.ofChange focusNearsSpec)

/-- ITS FALSE NEIGHBOUR: 'it returns false'. Refute it at one input. -/
def focusNearsWrong : ChangeSpec := { name := "focusNears", fn := fun _ => fun
  | [d1, d2, d3, d4] => { results := [.lit (.bool false)], args := [d1, d2, d3, d4] }
  | _ => none }
def FocusNearsWrongFalsely : Prop := focusNearsRow.holds Try.pinned (OpenSpec.ofChange focusNearsWrong)

/-- 'frescolaw23.FocusNearest': WHATEVER THE INPUT: true; the input reads as it did. -/
def focusNearestSpec : ChangeSpec := { name := "focusNearest", fn := fun _ => fun
  | [d1, d2, d3, d4] => { results := [.lit (.bool true)], args := [d1, d2, d3, d4] }
  | _ => none }
def focusNearestRow : OpenClaim := { program := "ytihjefncjkdnpaa", sum := "d86bd5430cb59c10b4728c6568a7190839fe571e974a6dac4100be2b27a0f81b", func := "fresco/frescolaw23.FocusNearest", spec := "focusNearest", unfollowed := true, recurses := true, apart := false }
def FocusNearestSaid : Prop := focusNearestRow.holds Try.pinned (OpenSpec.ofChange focusNearestSpec)

/-- ITS FALSE NEIGHBOUR: 'it returns false'. Refute it at one input. -/
def focusNearestWrong : ChangeSpec := { name := "focusNearest", fn := fun _ => fun
  | [d1, d2, d3, d4] => { results := [.lit (.bool false)], args := [d1, d2, d3, d4] }
  | _ => none }
def FocusNearestWrongFalsely : Prop := focusNearestRow.holds Try.pinned (OpenSpec.ofChange focusNearestWrong)

/-- 'frescolaw23.FocusKnown': WHATEVER THE INPUT: true; the input reads as it did. -/
def focusKnownSpec : ChangeSpec := { name := "focusKnown", fn := fun _ => fun
  | [] => { results := [.lit (.bool true)], args := [] }
  | _ => none }
def focusKnownRow : OpenClaim := { program := "ytihjefncjkdnpaa", sum := "d86bd5430cb59c10b4728c6568a7190839fe571e974a6dac4100be2b27a0f81b", func := "fresco/frescolaw23.FocusKnown", spec := "focusKnown", unfollowed := true, recurses := true, apart := false }
def FocusKnownSaid : Prop := focusKnownRow.holds Try.pinned (OpenSpec.ofChange focusKnownSpec)

/-- ITS FALSE NEIGHBOUR: 'it returns false'. Refute it at one input. -/
def focusKnownWrong : ChangeSpec := { name := "focusKnown", fn := fun _ => fun
  | [] => { results := [.lit (.bool false)], args := [] }
  | _ => none }
def FocusKnownWrongFalsely : Prop := focusKnownRow.holds Try.pinned (OpenSpec.ofChange focusKnownWrong)

/- THE SECOND FORM. 'bulk': how many values and letters a reading holds, each counted each time it is reached (what is shared counts as often as it is met; a slice's spare places count too). A statement '..UptoSaid' is the law's where the arguments, and the package variables that the reading takes, are together of bulk at most 1048576: NARROWER than '..Said'. Prove '..Said' where nothing that the law and all that it calls make is longer than what came in: it says more and counts as full. Else prove '..UptoSaid'. A law counts once. -/
mutual
def uptoBulk {H : Type} : DataW H → Nat
  | .lit (.string bytes) => bytes.length + 1
  | .lit _ => 1
  | .nil => 1
  | .ptr d => uptoBulk d + 1
  | .slice elems spare => uptoBulkAll elems + uptoBulkAll spare + 1
  | .agg parts => uptoBulkAll parts + 1
  | .iface _ d => uptoBulk d + 1
  | .map entries => uptoBulkEntries entries + 1
  | .held _ => 1
def uptoBulkAll {H : Type} : List (DataW H) → Nat
  | [] => 0
  | d :: r => uptoBulk d + uptoBulkAll r
def uptoBulkEntries {H : Type} : List (Lit × DataW H) → Nat
  | [] => 0
  | x :: r => uptoBulkEntry x + uptoBulkEntries r
def uptoBulkEntry {H : Type} : Lit × DataW H → Nat
  | (.string bytes, d) => bytes.length + uptoBulk d + 1
  | (_, d) => uptoBulk d + 1
 end
def uptoSmall : (H : Type) → List (DataW H) → Bool := fun _ ds => decide (uptoBulkAll ds ≤ 1048576)
def OpenSpec.upto (s : _root_.Go.ChangeSpec) : _root_.Go.OpenSpec := { _root_.Go.OpenSpec.ofChange s with cond := some uptoSmall }

/-- 'frescolaw23.FocusOrders', WHERE WHAT IT READS IS OF BULK AT MOST 1048576: true; the input reads as it did. -/
def focusOrdersUptoRow : OpenClaim := { program := "ytihjefncjkdnpaa", sum := "d86bd5430cb59c10b4728c6568a7190839fe571e974a6dac4100be2b27a0f81b", func := "fresco/frescolaw23.FocusOrders", spec := "focusOrders", unfollowed := true, recurses := true, apart := false, narrowed := true }
def FocusOrdersUptoSaid : Prop := focusOrdersUptoRow.holds Try.pinned (OpenSpec.upto focusOrdersSpec)

/-- 'frescolaw23.FocusCarries', WHERE WHAT IT READS IS OF BULK AT MOST 1048576: true; the input reads as it did. -/
def focusCarriesUptoRow : OpenClaim := { program := "ytihjefncjkdnpaa", sum := "d86bd5430cb59c10b4728c6568a7190839fe571e974a6dac4100be2b27a0f81b", func := "fresco/frescolaw23.FocusCarries", spec := "focusCarries", unfollowed := true, recurses := true, apart := false, narrowed := true }
def FocusCarriesUptoSaid : Prop := focusCarriesUptoRow.holds Try.pinned (OpenSpec.upto focusCarriesSpec)

/-- 'frescolaw23.FocusRoutes', WHERE WHAT IT READS IS OF BULK AT MOST 1048576: true; the input reads as it did. -/
def focusRoutesUptoRow : OpenClaim := { program := "ytihjefncjkdnpaa", sum := "d86bd5430cb59c10b4728c6568a7190839fe571e974a6dac4100be2b27a0f81b", func := "fresco/frescolaw23.FocusRoutes", spec := "focusRoutes", unfollowed := true, recurses := true, apart := false, narrowed := true }
def FocusRoutesUptoSaid : Prop := focusRoutesUptoRow.holds Try.pinned (OpenSpec.upto focusRoutesSpec)

/-- 'frescolaw23.FocusRound', WHERE WHAT IT READS IS OF BULK AT MOST 1048576: true; the input reads as it did. -/
def focusRoundUptoRow : OpenClaim := { program := "ytihjefncjkdnpaa", sum := "d86bd5430cb59c10b4728c6568a7190839fe571e974a6dac4100be2b27a0f81b", func := "fresco/frescolaw23.FocusRound", spec := "focusRound", unfollowed := true, recurses := true, apart := false, narrowed := true }
def FocusRoundUptoSaid : Prop := focusRoundUptoRow.holds Try.pinned (OpenSpec.upto focusRoundSpec)

/-- 'frescolaw23.FocusNears', WHERE WHAT IT READS IS OF BULK AT MOST 1048576: true; the input reads as it did. -/
def focusNearsUptoRow : OpenClaim := { program := "ytihjefncjkdnpaa", sum := "d86bd5430cb59c10b4728c6568a7190839fe571e974a6dac4100be2b27a0f81b", func := "fresco/frescolaw23.FocusNears", spec := "focusNears", unfollowed := true, recurses := true, apart := false, narrowed := true }
def FocusNearsUptoSaid : Prop := focusNearsUptoRow.holds Try.pinned (OpenSpec.upto focusNearsSpec)

/-- 'frescolaw23.FocusNearest', WHERE WHAT IT READS IS OF BULK AT MOST 1048576: true; the input reads as it did. -/
def focusNearestUptoRow : OpenClaim := { program := "ytihjefncjkdnpaa", sum := "d86bd5430cb59c10b4728c6568a7190839fe571e974a6dac4100be2b27a0f81b", func := "fresco/frescolaw23.FocusNearest", spec := "focusNearest", unfollowed := true, recurses := true, apart := false, narrowed := true }
def FocusNearestUptoSaid : Prop := focusNearestUptoRow.holds Try.pinned (OpenSpec.upto focusNearestSpec)

/-- 'frescolaw23.FocusKnown', WHERE WHAT IT READS IS OF BULK AT MOST 1048576: true; the input reads as it did. -/
def focusKnownUptoRow : OpenClaim := { program := "ytihjefncjkdnpaa", sum := "d86bd5430cb59c10b4728c6568a7190839fe571e974a6dac4100be2b27a0f81b", func := "fresco/frescolaw23.FocusKnown", spec := "focusKnown", unfollowed := true, recurses := true, apart := false, narrowed := true }
def FocusKnownUptoSaid : Prop := focusKnownUptoRow.holds Try.pinned (OpenSpec.upto focusKnownSpec)

end Rows
end Go.Proofs.Ytihjefncjkdnpaa
