/-
  No cell of these rows narrows 'for every input' (looked for: loops, veiled, ifaces, maps, wideKeys, modest, calm, conditions, laid).
  DERIVED. THE GIVEN ROWS OF THIS SEAT. 6 by the template 'for every input the law returns true; each argument reads behind the call as it read before'; 0 by the template 'total and deterministic' (their statements: YtgcdjickkbiglaaTotals.lean).
  GIVEN WITH THE SEED: the statements are not yours to turn. If you find one false, say at which input.
  Laid BY PROGRAM, IN A SANDBOX (cutbox-rows.mjs): the forced cells as the released guide's own fill.sh prints them over the translation 905194e7b32965b1… (all of the seat's roots in one cut). By AI agents, Wed Nov 11 2026. No macro, syntax, notation, axiom, sorry.
-/
import Derived.Test.YtgcdjickkbiglaaChecked
import GoSem.Claim
import GoSem.ClaimJoined
import GoSem.ClaimMapViews
import Derived.JoinedTies
import Derived.KernelRfl
namespace Go.Proofs.Ytgcdjickkbiglaa
/- THE CELL 'sum', in the pinned program and in every row, IS THE sha256 OF THE DUMP (.gsa) THAT YtgcdjickkbiglaaProg.lean LOADS. Nothing in Lean hashes anything: it is a label: what it is worth is what the hold of that sum in a sandbox is worth. -/
noncomputable def Try.pinned : Pinned := { name := "ytgcdjickkbiglaa", sum := "905194e7b32965b1e31120333a9c17d93dafd70203e5ee45ba8bc361cc8cec4a", checked := Try.checked }
namespace Rows
def none {H : Type} : Left H := { results := [], args := [] }

/-- 'hollowtreelaw05.KdfParts': WHATEVER THE INPUT: true; the input reads as it did. -/
def kdfPartsSpec : ChangeSpec := { name := "kdfParts", fn := fun _ => fun
  | [d1, d2, d3] => { results := [.lit (.bool true)], args := [d1, d2, d3] }
  | _ => none }
def kdfPartsRow : OpenClaim := { program := "ytgcdjickkbiglaa", sum := "905194e7b32965b1e31120333a9c17d93dafd70203e5ee45ba8bc361cc8cec4a", func := "hollowtree/hollowtreelaw05.KdfParts", spec := "kdfParts", unfollowed := true, recurses := true, apart := false }
def KdfPartsSaid : Prop := kdfPartsRow.holds Try.pinned (OpenSpec.ofChange kdfPartsSpec)

/-- ITS FALSE NEIGHBOUR: 'it returns false'. Refute it at one input. -/
def kdfPartsWrong : ChangeSpec := { name := "kdfParts", fn := fun _ => fun
  | [d1, d2, d3] => { results := [.lit (.bool false)], args := [d1, d2, d3] }
  | _ => none }
def KdfPartsWrongFalsely : Prop := kdfPartsRow.holds Try.pinned (OpenSpec.ofChange kdfPartsWrong)

/-- 'hollowtreelaw05.KdfCodes': WHATEVER THE INPUT: true; the input reads as it did. -/
def kdfCodesSpec : ChangeSpec := { name := "kdfCodes", fn := fun _ => fun
  | [d1, d2] => { results := [.lit (.bool true)], args := [d1, d2] }
  | _ => none }
def kdfCodesRow : OpenClaim := { program := "ytgcdjickkbiglaa", sum := "905194e7b32965b1e31120333a9c17d93dafd70203e5ee45ba8bc361cc8cec4a", func := "hollowtree/hollowtreelaw05.KdfCodes", spec := "kdfCodes", unfollowed := true, recurses := true, apart := false }
def KdfCodesSaid : Prop := kdfCodesRow.holds Try.pinned (OpenSpec.ofChange kdfCodesSpec)

/-- ITS FALSE NEIGHBOUR: 'it returns false'. Refute it at one input. -/
def kdfCodesWrong : ChangeSpec := { name := "kdfCodes", fn := fun _ => fun
  | [d1, d2] => { results := [.lit (.bool false)], args := [d1, d2] }
  | _ => none }
def KdfCodesWrongFalsely : Prop := kdfCodesRow.holds Try.pinned (OpenSpec.ofChange kdfCodesWrong)

/-- 'hollowtreelaw05.KdfSpreads': WHATEVER THE INPUT: true; the input reads as it did. -/
def kdfSpreadsSpec : ChangeSpec := { name := "kdfSpreads", fn := fun _ => fun
  | [d1, d2, d3] => { results := [.lit (.bool true)], args := [d1, d2, d3] }
  | _ => none }
def kdfSpreadsRow : OpenClaim := { program := "ytgcdjickkbiglaa", sum := "905194e7b32965b1e31120333a9c17d93dafd70203e5ee45ba8bc361cc8cec4a", func := "hollowtree/hollowtreelaw05.KdfSpreads", spec := "kdfSpreads", unfollowed := true, recurses := true, apart := false }
def KdfSpreadsSaid : Prop := kdfSpreadsRow.holds Try.pinned (OpenSpec.ofChange kdfSpreadsSpec)

/-- ITS FALSE NEIGHBOUR: 'it returns false'. Refute it at one input. -/
def kdfSpreadsWrong : ChangeSpec := { name := "kdfSpreads", fn := fun _ => fun
  | [d1, d2, d3] => { results := [.lit (.bool false)], args := [d1, d2, d3] }
  | _ => none }
def KdfSpreadsWrongFalsely : Prop := kdfSpreadsRow.holds Try.pinned (OpenSpec.ofChange kdfSpreadsWrong)

/-- 'hollowtreelaw05.KdfFewer': WHATEVER THE INPUT: true; the input reads as it did. -/
def kdfFewerSpec : ChangeSpec := { name := "kdfFewer", fn := fun _ => fun
  | [d1, d2, d3] => { results := [.lit (.bool true)], args := [d1, d2, d3] }
  | _ => none }
def kdfFewerRow : OpenClaim := { program := "ytgcdjickkbiglaa", sum := "905194e7b32965b1e31120333a9c17d93dafd70203e5ee45ba8bc361cc8cec4a", func := "hollowtree/hollowtreelaw05.KdfFewer", spec := "kdfFewer", unfollowed := true, recurses := true, apart := false }
def KdfFewerSaid : Prop := kdfFewerRow.holds Try.pinned (OpenSpec.ofChange kdfFewerSpec)

/-- ITS FALSE NEIGHBOUR: 'it returns false'. Refute it at one input. -/
def kdfFewerWrong : ChangeSpec := { name := "kdfFewer", fn := fun _ => fun
  | [d1, d2, d3] => { results := [.lit (.bool false)], args := [d1, d2, d3] }
  | _ => none }
def KdfFewerWrongFalsely : Prop := kdfFewerRow.holds Try.pinned (OpenSpec.ofChange kdfFewerWrong)

/-- 'hollowtreelaw05.KdfLabels': WHATEVER THE INPUT: true; the input reads as it did. -/
def kdfLabelsSpec : ChangeSpec := { name := "kdfLabels", fn := fun _ => fun
  | [d1, d2, d3] => { results := [.lit (.bool true)], args := [d1, d2, d3] }
  | _ => none }
def kdfLabelsRow : OpenClaim := { program := "ytgcdjickkbiglaa", sum := "905194e7b32965b1e31120333a9c17d93dafd70203e5ee45ba8bc361cc8cec4a", func := "hollowtree/hollowtreelaw05.KdfLabels", spec := "kdfLabels", unfollowed := true, recurses := true, apart := false }
def KdfLabelsSaid : Prop := kdfLabelsRow.holds Try.pinned (OpenSpec.ofChange kdfLabelsSpec)

/-- ITS FALSE NEIGHBOUR: 'it returns false'. Refute it at one input. -/
def kdfLabelsWrong : ChangeSpec := { name := "kdfLabels", fn := fun _ => fun
  | [d1, d2, d3] => { results := [.lit (.bool false)], args := [d1, d2, d3] }
  | _ => none }
def KdfLabelsWrongFalsely : Prop := kdfLabelsRow.holds Try.pinned (OpenSpec.ofChange kdfLabelsWrong)

/-- 'hollowtreelaw05.KdfApart': WHATEVER THE INPUT: true; the input reads as it did. -/
def kdfApartSpec : ChangeSpec := { name := "kdfApart", fn := fun _ => fun
  | [d1, d2, d3] => { results := [.lit (.bool true)], args := [d1, d2, d3] }
  | _ => none }
def kdfApartRow : OpenClaim := { program := "ytgcdjickkbiglaa", sum := "905194e7b32965b1e31120333a9c17d93dafd70203e5ee45ba8bc361cc8cec4a", func := "hollowtree/hollowtreelaw05.KdfApart", spec := "kdfApart", unfollowed := true, recurses := true, apart := false }
def KdfApartSaid : Prop := kdfApartRow.holds Try.pinned (OpenSpec.ofChange kdfApartSpec)

/-- ITS FALSE NEIGHBOUR: 'it returns false'. Refute it at one input. -/
def kdfApartWrong : ChangeSpec := { name := "kdfApart", fn := fun _ => fun
  | [d1, d2, d3] => { results := [.lit (.bool false)], args := [d1, d2, d3] }
  | _ => none }
def KdfApartWrongFalsely : Prop := kdfApartRow.holds Try.pinned (OpenSpec.ofChange kdfApartWrong)

/- THE SECOND FORM. 'bulk': how many values and letters a reading holds, each counted each time it is reached (what is shared counts as often as it is met; a slice's spare places count too). A statement '..UptoSaid' is the law's where the arguments, and the package variables that the reading takes, are together of bulk at most 1048576: NARROWER than '..Said'. Prove '..Said' where nothing that the law and all that it calls make is longer than what came in: it says more and counts as full. Else prove '..UptoSaid'. A law counts once. -/
mutual
def uptoBulk {H : Type} : DataW H → Nat
  | .lit (.string bytes) => bytes.length + 1
  | .lit _ => 1
  | .nil => 1
  | .ptr d => uptoBulk d + 1
  | .slice elems spare => uptoBulkAll elems + uptoBulkAll spare + 1
  | .agg parts => uptoBulkAll parts + 1
  | .iface _ d => uptoBulk d + 1
  | .map entries => uptoBulkEntries entries + 1
  | .held _ => 1
def uptoBulkAll {H : Type} : List (DataW H) → Nat
  | [] => 0
  | d :: r => uptoBulk d + uptoBulkAll r
def uptoBulkEntries {H : Type} : List (Lit × DataW H) → Nat
  | [] => 0
  | x :: r => uptoBulkEntry x + uptoBulkEntries r
def uptoBulkEntry {H : Type} : Lit × DataW H → Nat
  | (.string bytes, d) => bytes.length + uptoBulk d + 1
  | (_, d) => uptoBulk d + 1
 end
def uptoSmall : (H : Type) → List (DataW H) → Bool := fun _ ds => decide (uptoBulkAll ds ≤ 1048576)
def OpenSpec.upto (s : _root_.Go.ChangeSpec) : _root_.Go.OpenSpec := { _root_.Go.OpenSpec.ofChange s with cond := some uptoSmall }

/-- 'hollowtreelaw05.KdfParts', WHERE WHAT IT READS IS OF BULK AT MOST 1048576: true; the input reads as it did. -/
def kdfPartsUptoRow : OpenClaim := { program := "ytgcdjickkbiglaa", sum := "905194e7b32965b1e31120333a9c17d93dafd70203e5ee45ba8bc361cc8cec4a", func := "hollowtree/hollowtreelaw05.KdfParts", spec := "kdfParts", unfollowed := true, recurses := true, apart := false, narrowed := true }
def KdfPartsUptoSaid : Prop := kdfPartsUptoRow.holds Try.pinned (OpenSpec.upto kdfPartsSpec)

/-- 'hollowtreelaw05.KdfCodes', WHERE WHAT IT READS IS OF BULK AT MOST 1048576: true; the input reads as it did. -/
def kdfCodesUptoRow : OpenClaim := { program := "ytgcdjickkbiglaa", sum := "905194e7b32965b1e31120333a9c17d93dafd70203e5ee45ba8bc361cc8cec4a", func := "hollowtree/hollowtreelaw05.KdfCodes", spec := "kdfCodes", unfollowed := true, recurses := true, apart := false, narrowed := true }
def KdfCodesUptoSaid : Prop := kdfCodesUptoRow.holds Try.pinned (OpenSpec.upto kdfCodesSpec)

/-- 'hollowtreelaw05.KdfSpreads', WHERE WHAT IT READS IS OF BULK AT MOST 1048576: true; the input reads as it did. -/
def kdfSpreadsUptoRow : OpenClaim := { program := "ytgcdjickkbiglaa", sum := "905194e7b32965b1e31120333a9c17d93dafd70203e5ee45ba8bc361cc8cec4a", func := "hollowtree/hollowtreelaw05.KdfSpreads", spec := "kdfSpreads", unfollowed := true, recurses := true, apart := false, narrowed := true }
def KdfSpreadsUptoSaid : Prop := kdfSpreadsUptoRow.holds Try.pinned (OpenSpec.upto kdfSpreadsSpec)

/-- 'hollowtreelaw05.KdfFewer', WHERE WHAT IT READS IS OF BULK AT MOST 1048576: true; the input reads as it did. -/
def kdfFewerUptoRow : OpenClaim := { program := "ytgcdjickkbiglaa", sum := "905194e7b32965b1e31120333a9c17d93dafd70203e5ee45ba8bc361cc8cec4a", func := "hollowtree/hollowtreelaw05.KdfFewer", spec := "kdfFewer", unfollowed := true, recurses := true, apart := false, narrowed := true }
def KdfFewerUptoSaid : Prop := kdfFewerUptoRow.holds Try.pinned (OpenSpec.upto kdfFewerSpec)

/-- 'hollowtreelaw05.KdfLabels', WHERE WHAT IT READS IS OF BULK AT MOST 1048576: true; the input reads as it did. -/
def kdfLabelsUptoRow : OpenClaim := { program := "ytgcdjickkbiglaa", sum := "905194e7b32965b1e31120333a9c17d93dafd70203e5ee45ba8bc361cc8cec4a", func := "hollowtree/hollowtreelaw05.KdfLabels", spec := "kdfLabels", unfollowed := true, recurses := true, apart := false, narrowed := true }
def KdfLabelsUptoSaid : Prop := kdfLabelsUptoRow.holds Try.pinned (OpenSpec.upto kdfLabelsSpec)

/-- 'hollowtreelaw05.KdfApart', WHERE WHAT IT READS IS OF BULK AT MOST 1048576: true; the input reads as it did. -/
def kdfApartUptoRow : OpenClaim := { program := "ytgcdjickkbiglaa", sum := "905194e7b32965b1e31120333a9c17d93dafd70203e5ee45ba8bc361cc8cec4a", func := "hollowtree/hollowtreelaw05.KdfApart", spec := "kdfApart", unfollowed := true, recurses := true, apart := false, narrowed := true }
def KdfApartUptoSaid : Prop := kdfApartUptoRow.holds Try.pinned (OpenSpec.upto kdfApartSpec)

end Rows
end Go.Proofs.Ytgcdjickkbiglaa
