/-
  No cell of these rows narrows 'for every input' (looked for: loops, veiled, ifaces, maps, wideKeys, modest, calm, conditions, laid).
  DERIVED. THE GIVEN ROWS OF THIS SEAT. 8 by the template 'for every input the law returns true; each argument reads behind the call as it read before'; 0 by the template 'total and deterministic' (their statements: YtegdokchkblpiaaTotals.lean).
  GIVEN WITH THE SEED: the statements are not yours to turn. If you find one false, say at which input.
  Laid BY PROGRAM, IN A SANDBOX (cutbox-rows.mjs): the forced cells as the released guide's own fill.sh prints them over the translation 498d28e5ef8286dd… (all of the seat's roots in one cut). By AI agents, Wed Nov 11 2026. No macro, syntax, notation, axiom, sorry.
-/
import Derived.Test.YtegdokchkblpiaaChecked
import GoSem.Claim
import GoSem.ClaimJoined
import GoSem.ClaimMapViews
import Derived.JoinedTies
import Derived.KernelRfl
namespace Go.Proofs.Ytegdokchkblpiaa
/- THE CELL 'sum', in the pinned program and in every row, IS THE sha256 OF THE DUMP (.gsa) THAT YtegdokchkblpiaaProg.lean LOADS. Nothing in Lean hashes anything: it is a label: what it is worth is what the hold of that sum in a sandbox is worth. -/
noncomputable def Try.pinned : Pinned := { name := "ytegdokchkblpiaa", sum := "498d28e5ef8286ddf71ffcce886c3882aa646b9d1e9374f48645728bcc628b84", checked := Try.checked }
namespace Rows
def none {H : Type} : Left H := { results := [], args := [] }

/-- 'frescolaw17.ScrollGoes': WHATEVER THE INPUT: true; the input reads as it did. -/
def scrollGoesSpec : ChangeSpec := { name := "scrollGoes", fn := fun _ => fun
  | [d1, d2, d3, d4, d5, d6] => { results := [.lit (.bool true)], args := [d1, d2, d3, d4, d5, d6] }
  | _ => none }
def scrollGoesRow : OpenClaim := { program := "ytegdokchkblpiaa", sum := "498d28e5ef8286ddf71ffcce886c3882aa646b9d1e9374f48645728bcc628b84", func := "fresco/frescolaw17.ScrollGoes", spec := "scrollGoes", apart := false }
def ScrollGoesSaid : Prop := scrollGoesRow.holds Try.pinned (OpenSpec.ofChange scrollGoesSpec)

/-- ITS FALSE NEIGHBOUR: 'it returns false'. Refute it at one input. -/
def scrollGoesWrong : ChangeSpec := { name := "scrollGoes", fn := fun _ => fun
  | [d1, d2, d3, d4, d5, d6] => { results := [.lit (.bool false)], args := [d1, d2, d3, d4, d5, d6] }
  | _ => none }
def ScrollGoesWrongFalsely : Prop := scrollGoesRow.holds Try.pinned (OpenSpec.ofChange scrollGoesWrong)

/-- 'frescolaw17.ScrollReveals': WHATEVER THE INPUT: true; the input reads as it did. -/
def scrollRevealsSpec : ChangeSpec := { name := "scrollReveals", fn := fun _ => fun
  | [d1, d2, d3, d4] => { results := [.lit (.bool true)], args := [d1, d2, d3, d4] }
  | _ => none }
def scrollRevealsRow : OpenClaim := { program := "ytegdokchkblpiaa", sum := "498d28e5ef8286ddf71ffcce886c3882aa646b9d1e9374f48645728bcc628b84", func := "fresco/frescolaw17.ScrollReveals", spec := "scrollReveals", apart := false }
def ScrollRevealsSaid : Prop := scrollRevealsRow.holds Try.pinned (OpenSpec.ofChange scrollRevealsSpec)

/-- ITS FALSE NEIGHBOUR: 'it returns false'. Refute it at one input. -/
def scrollRevealsWrong : ChangeSpec := { name := "scrollReveals", fn := fun _ => fun
  | [d1, d2, d3, d4] => { results := [.lit (.bool false)], args := [d1, d2, d3, d4] }
  | _ => none }
def ScrollRevealsWrongFalsely : Prop := scrollRevealsRow.holds Try.pinned (OpenSpec.ofChange scrollRevealsWrong)

/-- 'frescolaw17.ScrollThumbs': WHATEVER THE INPUT: true; the input reads as it did. -/
def scrollThumbsSpec : ChangeSpec := { name := "scrollThumbs", fn := fun _ => fun
  | [d1, d2, d3, d4] => { results := [.lit (.bool true)], args := [d1, d2, d3, d4] }
  | _ => none }
def scrollThumbsRow : OpenClaim := { program := "ytegdokchkblpiaa", sum := "498d28e5ef8286ddf71ffcce886c3882aa646b9d1e9374f48645728bcc628b84", func := "fresco/frescolaw17.ScrollThumbs", spec := "scrollThumbs", apart := false }
def ScrollThumbsSaid : Prop := scrollThumbsRow.holds Try.pinned (OpenSpec.ofChange scrollThumbsSpec)

/-- ITS FALSE NEIGHBOUR: 'it returns false'. Refute it at one input. -/
def scrollThumbsWrong : ChangeSpec := { name := "scrollThumbs", fn := fun _ => fun
  | [d1, d2, d3, d4] => { results := [.lit (.bool false)], args := [d1, d2, d3, d4] }
  | _ => none }
def ScrollThumbsWrongFalsely : Prop := scrollThumbsRow.holds Try.pinned (OpenSpec.ofChange scrollThumbsWrong)

/-- 'frescolaw17.ScrollMost': WHATEVER THE INPUT: true; the input reads as it did. -/
def scrollMostSpec : ChangeSpec := { name := "scrollMost", fn := fun _ => fun
  | [d1, d2, d3] => { results := [.lit (.bool true)], args := [d1, d2, d3] }
  | _ => none }
def scrollMostRow : OpenClaim := { program := "ytegdokchkblpiaa", sum := "498d28e5ef8286ddf71ffcce886c3882aa646b9d1e9374f48645728bcc628b84", func := "fresco/frescolaw17.ScrollMost", spec := "scrollMost", apart := false }
def ScrollMostSaid : Prop := scrollMostRow.holds Try.pinned (OpenSpec.ofChange scrollMostSpec)

/-- ITS FALSE NEIGHBOUR: 'it returns false'. Refute it at one input. -/
def scrollMostWrong : ChangeSpec := { name := "scrollMost", fn := fun _ => fun
  | [d1, d2, d3] => { results := [.lit (.bool false)], args := [d1, d2, d3] }
  | _ => none }
def ScrollMostWrongFalsely : Prop := scrollMostRow.holds Try.pinned (OpenSpec.ofChange scrollMostWrong)

/-- 'frescolaw17.ScrollCarries': WHATEVER THE INPUT: true; the input reads as it did. -/
def scrollCarriesSpec : ChangeSpec := { name := "scrollCarries", fn := fun _ => fun
  | [d1, d2, d3] => { results := [.lit (.bool true)], args := [d1, d2, d3] }
  | _ => none }
def scrollCarriesRow : OpenClaim := { program := "ytegdokchkblpiaa", sum := "498d28e5ef8286ddf71ffcce886c3882aa646b9d1e9374f48645728bcc628b84", func := "fresco/frescolaw17.ScrollCarries", spec := "scrollCarries", apart := false }
def ScrollCarriesSaid : Prop := scrollCarriesRow.holds Try.pinned (OpenSpec.ofChange scrollCarriesSpec)

/-- ITS FALSE NEIGHBOUR: 'it returns false'. Refute it at one input. -/
def scrollCarriesWrong : ChangeSpec := { name := "scrollCarries", fn := fun _ => fun
  | [d1, d2, d3] => { results := [.lit (.bool false)], args := [d1, d2, d3] }
  | _ => none }
def ScrollCarriesWrongFalsely : Prop := scrollCarriesRow.holds Try.pinned (OpenSpec.ofChange scrollCarriesWrong)

/-- 'frescolaw17.ScrollStays': WHATEVER THE INPUT: true; the input reads as it did. -/
def scrollStaysSpec : ChangeSpec := { name := "scrollStays", fn := fun _ => fun
  | [d1, d2] => { results := [.lit (.bool true)], args := [d1, d2] }
  | _ => none }
def scrollStaysRow : OpenClaim := { program := "ytegdokchkblpiaa", sum := "498d28e5ef8286ddf71ffcce886c3882aa646b9d1e9374f48645728bcc628b84", func := "fresco/frescolaw17.ScrollStays", spec := "scrollStays", apart := false }
def ScrollStaysSaid : Prop := scrollStaysRow.holds Try.pinned (OpenSpec.ofChange scrollStaysSpec)

/-- ITS FALSE NEIGHBOUR: 'it returns false'. Refute it at one input. -/
def scrollStaysWrong : ChangeSpec := { name := "scrollStays", fn := fun _ => fun
  | [d1, d2] => { results := [.lit (.bool false)], args := [d1, d2] }
  | _ => none }
def ScrollStaysWrongFalsely : Prop := scrollStaysRow.holds Try.pinned (OpenSpec.ofChange scrollStaysWrong)

/-- 'frescolaw17.ScrollAbove': WHATEVER THE INPUT: true; the input reads as it did. -/
def scrollAboveSpec : ChangeSpec := { name := "scrollAbove", fn := fun _ => fun
  | [d1, d2, d3] => { results := [.lit (.bool true)], args := [d1, d2, d3] }
  | _ => none }
def scrollAboveRow : OpenClaim := { program := "ytegdokchkblpiaa", sum := "498d28e5ef8286ddf71ffcce886c3882aa646b9d1e9374f48645728bcc628b84", func := "fresco/frescolaw17.ScrollAbove", spec := "scrollAbove", unfollowed := true, recurses := true, apart := false }
def ScrollAboveSaid : Prop := scrollAboveRow.holds Try.pinned (OpenSpec.ofChange scrollAboveSpec)

/-- ITS FALSE NEIGHBOUR: 'it returns false'. Refute it at one input. -/
def scrollAboveWrong : ChangeSpec := { name := "scrollAbove", fn := fun _ => fun
  | [d1, d2, d3] => { results := [.lit (.bool false)], args := [d1, d2, d3] }
  | _ => none }
def ScrollAboveWrongFalsely : Prop := scrollAboveRow.holds Try.pinned (OpenSpec.ofChange scrollAboveWrong)

/-- 'frescolaw17.ScrollKnown': WHATEVER THE INPUT: true; the input reads as it did. -/
def scrollKnownSpec : ChangeSpec := { name := "scrollKnown", fn := fun _ => fun
  | [] => { results := [.lit (.bool true)], args := [] }
  | _ => none }
def scrollKnownRow : OpenClaim := { program := "ytegdokchkblpiaa", sum := "498d28e5ef8286ddf71ffcce886c3882aa646b9d1e9374f48645728bcc628b84", func := "fresco/frescolaw17.ScrollKnown", spec := "scrollKnown", unfollowed := true, recurses := true, apart := false }
def ScrollKnownSaid : Prop := scrollKnownRow.holds Try.pinned (OpenSpec.ofChange scrollKnownSpec)

/-- ITS FALSE NEIGHBOUR: 'it returns false'. Refute it at one input. -/
def scrollKnownWrong : ChangeSpec := { name := "scrollKnown", fn := fun _ => fun
  | [] => { results := [.lit (.bool false)], args := [] }
  | _ => none }
def ScrollKnownWrongFalsely : Prop := scrollKnownRow.holds Try.pinned (OpenSpec.ofChange scrollKnownWrong)

/- THE SECOND FORM. 'bulk': how many values and letters a reading holds, each counted each time it is reached (what is shared counts as often as it is met; a slice's spare places count too). A statement '..UptoSaid' is the law's where the arguments, and the package variables that the reading takes, are together of bulk at most 1048576: NARROWER than '..Said'. Prove '..Said' where nothing that the law and all that it calls make is longer than what came in: it says more and counts as full. Else prove '..UptoSaid'. A law counts once. -/
mutual
def uptoBulk {H : Type} : DataW H → Nat
  | .lit (.string bytes) => bytes.length + 1
  | .lit _ => 1
  | .nil => 1
  | .ptr d => uptoBulk d + 1
  | .slice elems spare => uptoBulkAll elems + uptoBulkAll spare + 1
  | .agg parts => uptoBulkAll parts + 1
  | .iface _ d => uptoBulk d + 1
  | .map entries => uptoBulkEntries entries + 1
  | .held _ => 1
def uptoBulkAll {H : Type} : List (DataW H) → Nat
  | [] => 0
  | d :: r => uptoBulk d + uptoBulkAll r
def uptoBulkEntries {H : Type} : List (Lit × DataW H) → Nat
  | [] => 0
  | x :: r => uptoBulkEntry x + uptoBulkEntries r
def uptoBulkEntry {H : Type} : Lit × DataW H → Nat
  | (.string bytes, d) => bytes.length + uptoBulk d + 1
  | (_, d) => uptoBulk d + 1
 end
def uptoSmall : (H : Type) → List (DataW H) → Bool := fun _ ds => decide (uptoBulkAll ds ≤ 1048576)
def OpenSpec.upto (s : _root_.Go.ChangeSpec) : _root_.Go.OpenSpec := { _root_.Go.OpenSpec.ofChange s with cond := some uptoSmall }

/-- 'frescolaw17.ScrollGoes', WHERE WHAT IT READS IS OF BULK AT MOST 1048576: true; the input reads as it did. -/
def scrollGoesUptoRow : OpenClaim := { program := "ytegdokchkblpiaa", sum := "498d28e5ef8286ddf71ffcce886c3882aa646b9d1e9374f48645728bcc628b84", func := "fresco/frescolaw17.ScrollGoes", spec := "scrollGoes", apart := false, narrowed := true }
def ScrollGoesUptoSaid : Prop := scrollGoesUptoRow.holds Try.pinned (OpenSpec.upto scrollGoesSpec)

/-- 'frescolaw17.ScrollReveals', WHERE WHAT IT READS IS OF BULK AT MOST 1048576: true; the input reads as it did. -/
def scrollRevealsUptoRow : OpenClaim := { program := "ytegdokchkblpiaa", sum := "498d28e5ef8286ddf71ffcce886c3882aa646b9d1e9374f48645728bcc628b84", func := "fresco/frescolaw17.ScrollReveals", spec := "scrollReveals", apart := false, narrowed := true }
def ScrollRevealsUptoSaid : Prop := scrollRevealsUptoRow.holds Try.pinned (OpenSpec.upto scrollRevealsSpec)

/-- 'frescolaw17.ScrollThumbs', WHERE WHAT IT READS IS OF BULK AT MOST 1048576: true; the input reads as it did. -/
def scrollThumbsUptoRow : OpenClaim := { program := "ytegdokchkblpiaa", sum := "498d28e5ef8286ddf71ffcce886c3882aa646b9d1e9374f48645728bcc628b84", func := "fresco/frescolaw17.ScrollThumbs", spec := "scrollThumbs", apart := false, narrowed := true }
def ScrollThumbsUptoSaid : Prop := scrollThumbsUptoRow.holds Try.pinned (OpenSpec.upto scrollThumbsSpec)

/-- 'frescolaw17.ScrollMost', WHERE WHAT IT READS IS OF BULK AT MOST 1048576: true; the input reads as it did. -/
def scrollMostUptoRow : OpenClaim := { program := "ytegdokchkblpiaa", sum := "498d28e5ef8286ddf71ffcce886c3882aa646b9d1e9374f48645728bcc628b84", func := "fresco/frescolaw17.ScrollMost", spec := "scrollMost", apart := false, narrowed := true }
def ScrollMostUptoSaid : Prop := scrollMostUptoRow.holds Try.pinned (OpenSpec.upto scrollMostSpec)

/-- 'frescolaw17.ScrollCarries', WHERE WHAT IT READS IS OF BULK AT MOST 1048576: true; the input reads as it did. -/
def scrollCarriesUptoRow : OpenClaim := { program := "ytegdokchkblpiaa", sum := "498d28e5ef8286ddf71ffcce886c3882aa646b9d1e9374f48645728bcc628b84", func := "fresco/frescolaw17.ScrollCarries", spec := "scrollCarries", apart := false, narrowed := true }
def ScrollCarriesUptoSaid : Prop := scrollCarriesUptoRow.holds Try.pinned (OpenSpec.upto scrollCarriesSpec)

/-- 'frescolaw17.ScrollStays', WHERE WHAT IT READS IS OF BULK AT MOST 1048576: true; the input reads as it did. -/
def scrollStaysUptoRow : OpenClaim := { program := "ytegdokchkblpiaa", sum := "498d28e5ef8286ddf71ffcce886c3882aa646b9d1e9374f48645728bcc628b84", func := "fresco/frescolaw17.ScrollStays", spec := "scrollStays", apart := false, narrowed := true }
def ScrollStaysUptoSaid : Prop := scrollStaysUptoRow.holds Try.pinned (OpenSpec.upto scrollStaysSpec)

/-- 'frescolaw17.ScrollAbove', WHERE WHAT IT READS IS OF BULK AT MOST 1048576: true; the input reads as it did. -/
def scrollAboveUptoRow : OpenClaim := { program := "ytegdokchkblpiaa", sum := "498d28e5ef8286ddf71ffcce886c3882aa646b9d1e9374f48645728bcc628b84", func := "fresco/frescolaw17.ScrollAbove", spec := "scrollAbove", unfollowed := true, recurses := true, apart := false, narrowed := true }
def ScrollAboveUptoSaid : Prop := scrollAboveUptoRow.holds Try.pinned (OpenSpec.upto scrollAboveSpec)

/-- 'frescolaw17.ScrollKnown', WHERE WHAT IT READS IS OF BULK AT MOST 1048576: true; the input reads as it did. -/
def scrollKnownUptoRow : OpenClaim := { program := "ytegdokchkblpiaa", sum := "498d28e5ef8286ddf71ffcce886c3882aa646b9d1e9374f48645728bcc628b84", func := "fresco/frescolaw17.ScrollKnown", spec := "scrollKnown", unfollowed := true, recurses := true, apart := false, narrowed := true }
def ScrollKnownUptoSaid : Prop := scrollKnownUptoRow.holds Try.pinned (OpenSpec.upto scrollKnownSpec)

end Rows
end Go.Proofs.Ytegdokchkblpiaa
