/-
  No cell of these rows narrows 'for every input' (looked for: loops, veiled, ifaces, maps, wideKeys, modest, calm, conditions, laid).
  DERIVED. THE GIVEN ROWS OF THIS SEAT. 6 by the template 'for every input the law returns true; each argument reads behind the call as it read before'; 0 by the template 'total and deterministic' (their statements: YtfamcgmgcchppaaTotals.lean).
  GIVEN WITH THE SEED: the statements are not yours to turn. If you find one false, say at which input.
  Laid BY PROGRAM, IN A SANDBOX (cutbox-rows.mjs): the forced cells as the released guide's own fill.sh prints them over the translation c42d79eaedadd6ff… (all of the seat's roots in one cut). By AI agents, Wed Nov 11 2026. No macro, syntax, notation, axiom, sorry.
-/
import Derived.Test.YtfamcgmgcchppaaChecked
import GoSem.Claim
import GoSem.ClaimJoined
import GoSem.ClaimMapViews
import Derived.JoinedTies
import Derived.KernelRfl
namespace Go.Proofs.Ytfamcgmgcchppaa
/- THE CELL 'sum', in the pinned program and in every row, IS THE sha256 OF THE DUMP (.gsa) THAT YtfamcgmgcchppaaProg.lean LOADS. Nothing in Lean hashes anything: it is a label: what it is worth is what the hold of that sum in a sandbox is worth. -/
noncomputable def Try.pinned : Pinned := { name := "ytfamcgmgcchppaa", sum := "c42d79eaedadd6ff55f761e9a4ba411ad4c7dced1d255f40d906f2ab091d098d", checked := Try.checked }
namespace Rows
def none {H : Type} : Left H := { results := [], args := [] }

/-- 'hollowtreelaw09.DiceOrders': WHATEVER THE INPUT: true; the input reads as it did. -/
def diceOrdersSpec : ChangeSpec := { name := "diceOrders", fn := fun _ => fun
  | [d1, d2] => { results := [.lit (.bool true)], args := [d1, d2] }
  | _ => none }
def diceOrdersRow : OpenClaim := { program := "ytfamcgmgcchppaa", sum := "c42d79eaedadd6ff55f761e9a4ba411ad4c7dced1d255f40d906f2ab091d098d", func := "hollowtree/hollowtreelaw09.DiceOrders", spec := "diceOrders", unfollowed := true, recurses := true, apart := false }
def DiceOrdersSaid : Prop := diceOrdersRow.holds Try.pinned (OpenSpec.ofChange diceOrdersSpec)

/-- ITS FALSE NEIGHBOUR: 'it returns false'. Refute it at one input. -/
def diceOrdersWrong : ChangeSpec := { name := "diceOrders", fn := fun _ => fun
  | [d1, d2] => { results := [.lit (.bool false)], args := [d1, d2] }
  | _ => none }
def DiceOrdersWrongFalsely : Prop := diceOrdersRow.holds Try.pinned (OpenSpec.ofChange diceOrdersWrong)

/-- 'hollowtreelaw09.DiceParts': WHATEVER THE INPUT: true; the input reads as it did. -/
def dicePartsSpec : ChangeSpec := { name := "diceParts", fn := fun _ => fun
  | [d1, d2, d3] => { results := [.lit (.bool true)], args := [d1, d2, d3] }
  | _ => none }
def dicePartsRow : OpenClaim := { program := "ytfamcgmgcchppaa", sum := "c42d79eaedadd6ff55f761e9a4ba411ad4c7dced1d255f40d906f2ab091d098d", func := "hollowtree/hollowtreelaw09.DiceParts", spec := "diceParts", unfollowed := true, recurses := true, apart := false }
def DicePartsSaid : Prop := dicePartsRow.holds Try.pinned (OpenSpec.ofChange dicePartsSpec)

/-- ITS FALSE NEIGHBOUR: 'it returns false'. Refute it at one input. -/
def dicePartsWrong : ChangeSpec := { name := "diceParts", fn := fun _ => fun
  | [d1, d2, d3] => { results := [.lit (.bool false)], args := [d1, d2, d3] }
  | _ => none }
def DicePartsWrongFalsely : Prop := dicePartsRow.holds Try.pinned (OpenSpec.ofChange dicePartsWrong)

/-- 'hollowtreelaw09.DiceDraws': WHATEVER THE INPUT: true; the input reads as it did. -/
def diceDrawsSpec : ChangeSpec := { name := "diceDraws", fn := fun _ => fun
  | [d1, d2] => { results := [.lit (.bool true)], args := [d1, d2] }
  | _ => none }
def diceDrawsRow : OpenClaim := { program := "ytfamcgmgcchppaa", sum := "c42d79eaedadd6ff55f761e9a4ba411ad4c7dced1d255f40d906f2ab091d098d", func := "hollowtree/hollowtreelaw09.DiceDraws", spec := "diceDraws", unfollowed := true, recurses := true, apart := false }
def DiceDrawsSaid : Prop := diceDrawsRow.holds Try.pinned (OpenSpec.ofChange diceDrawsSpec)

/-- ITS FALSE NEIGHBOUR: 'it returns false'. Refute it at one input. -/
def diceDrawsWrong : ChangeSpec := { name := "diceDraws", fn := fun _ => fun
  | [d1, d2] => { results := [.lit (.bool false)], args := [d1, d2] }
  | _ => none }
def DiceDrawsWrongFalsely : Prop := diceDrawsRow.holds Try.pinned (OpenSpec.ofChange diceDrawsWrong)

/-- 'hollowtreelaw09.DiceForks': WHATEVER THE INPUT: true; the input reads as it did. -/
def diceForksSpec : ChangeSpec := { name := "diceForks", fn := fun _ => fun
  | [d1, d2, d3] => { results := [.lit (.bool true)], args := [d1, d2, d3] }
  | _ => none }
def diceForksRow : OpenClaim := { program := "ytfamcgmgcchppaa", sum := "c42d79eaedadd6ff55f761e9a4ba411ad4c7dced1d255f40d906f2ab091d098d", func := "hollowtree/hollowtreelaw09.DiceForks", spec := "diceForks", unfollowed := true, recurses := true, apart := false }
def DiceForksSaid : Prop := diceForksRow.holds Try.pinned (OpenSpec.ofChange diceForksSpec)

/-- ITS FALSE NEIGHBOUR: 'it returns false'. Refute it at one input. -/
def diceForksWrong : ChangeSpec := { name := "diceForks", fn := fun _ => fun
  | [d1, d2, d3] => { results := [.lit (.bool false)], args := [d1, d2, d3] }
  | _ => none }
def DiceForksWrongFalsely : Prop := diceForksRow.holds Try.pinned (OpenSpec.ofChange diceForksWrong)

/-- 'hollowtreelaw09.DiceNone': WHATEVER THE INPUT: true; the input reads as it did. -/
def diceNoneSpec : ChangeSpec := { name := "diceNone", fn := fun _ => fun
  | [d] => { results := [.lit (.bool true)], args := [d] }
  | _ => none }
def diceNoneRow : OpenClaim := { program := "ytfamcgmgcchppaa", sum := "c42d79eaedadd6ff55f761e9a4ba411ad4c7dced1d255f40d906f2ab091d098d", func := "hollowtree/hollowtreelaw09.DiceNone", spec := "diceNone", unfollowed := true, recurses := true, apart := false }
def DiceNoneSaid : Prop := diceNoneRow.holds Try.pinned (OpenSpec.ofChange diceNoneSpec)

/-- ITS FALSE NEIGHBOUR: 'it returns false'. Refute it at one input. -/
def diceNoneWrong : ChangeSpec := { name := "diceNone", fn := fun _ => fun
  | [d] => { results := [.lit (.bool false)], args := [d] }
  | _ => none }
def DiceNoneWrongFalsely : Prop := diceNoneRow.holds Try.pinned (OpenSpec.ofChange diceNoneWrong)

/-- 'hollowtreelaw09.DiceApart': WHATEVER THE INPUT: true; the input reads as it did. -/
def diceApartSpec : ChangeSpec := { name := "diceApart", fn := fun _ => fun
  | [d1, d2, d3] => { results := [.lit (.bool true)], args := [d1, d2, d3] }
  | _ => none }
def diceApartRow : OpenClaim := { program := "ytfamcgmgcchppaa", sum := "c42d79eaedadd6ff55f761e9a4ba411ad4c7dced1d255f40d906f2ab091d098d", func := "hollowtree/hollowtreelaw09.DiceApart", spec := "diceApart", unfollowed := true, recurses := true, apart := false }
def DiceApartSaid : Prop := diceApartRow.holds Try.pinned (OpenSpec.ofChange diceApartSpec)

/-- ITS FALSE NEIGHBOUR: 'it returns false'. Refute it at one input. -/
def diceApartWrong : ChangeSpec := { name := "diceApart", fn := fun _ => fun
  | [d1, d2, d3] => { results := [.lit (.bool false)], args := [d1, d2, d3] }
  | _ => none }
def DiceApartWrongFalsely : Prop := diceApartRow.holds Try.pinned (OpenSpec.ofChange diceApartWrong)

/- THE SECOND FORM. 'bulk': how many values and letters a reading holds, each counted each time it is reached (what is shared counts as often as it is met; a slice's spare places count too). A statement '..UptoSaid' is the law's where the arguments, and the package variables that the reading takes, are together of bulk at most 1048576: NARROWER than '..Said'. Prove '..Said' where nothing that the law and all that it calls make is longer than what came in: it says more and counts as full. Else prove '..UptoSaid'. A law counts once. -/
mutual
def uptoBulk {H : Type} : DataW H → Nat
  | .lit (.string bytes) => bytes.length + 1
  | .lit _ => 1
  | .nil => 1
  | .ptr d => uptoBulk d + 1
  | .slice elems spare => uptoBulkAll elems + uptoBulkAll spare + 1
  | .agg parts => uptoBulkAll parts + 1
  | .iface _ d => uptoBulk d + 1
  | .map entries => uptoBulkEntries entries + 1
  | .held _ => 1
def uptoBulkAll {H : Type} : List (DataW H) → Nat
  | [] => 0
  | d :: r => uptoBulk d + uptoBulkAll r
def uptoBulkEntries {H : Type} : List (Lit × DataW H) → Nat
  | [] => 0
  | x :: r => uptoBulkEntry x + uptoBulkEntries r
def uptoBulkEntry {H : Type} : Lit × DataW H → Nat
  | (.string bytes, d) => bytes.length + uptoBulk d + 1
  | (_, d) => uptoBulk d + 1
 end
def uptoSmall : (H : Type) → List (DataW H) → Bool := fun _ ds => decide (uptoBulkAll ds ≤ 1048576)
def OpenSpec.upto (s : _root_.Go.ChangeSpec) : _root_.Go.OpenSpec := { _root_.Go.OpenSpec.ofChange s with cond := some uptoSmall }

/-- 'hollowtreelaw09.DiceOrders', WHERE WHAT IT READS IS OF BULK AT MOST 1048576: true; the input reads as it did. -/
def diceOrdersUptoRow : OpenClaim := { program := "ytfamcgmgcchppaa", sum := "c42d79eaedadd6ff55f761e9a4ba411ad4c7dced1d255f40d906f2ab091d098d", func := "hollowtree/hollowtreelaw09.DiceOrders", spec := "diceOrders", unfollowed := true, recurses := true, apart := false, narrowed := true }
def DiceOrdersUptoSaid : Prop := diceOrdersUptoRow.holds Try.pinned (OpenSpec.upto diceOrdersSpec)

/-- 'hollowtreelaw09.DiceParts', WHERE WHAT IT READS IS OF BULK AT MOST 1048576: true; the input reads as it did. -/
def dicePartsUptoRow : OpenClaim := { program := "ytfamcgmgcchppaa", sum := "c42d79eaedadd6ff55f761e9a4ba411ad4c7dced1d255f40d906f2ab091d098d", func := "hollowtree/hollowtreelaw09.DiceParts", spec := "diceParts", unfollowed := true, recurses := true, apart := false, narrowed := true }
def DicePartsUptoSaid : Prop := dicePartsUptoRow.holds Try.pinned (OpenSpec.upto dicePartsSpec)

/-- 'hollowtreelaw09.DiceDraws', WHERE WHAT IT READS IS OF BULK AT MOST 1048576: true; the input reads as it did. -/
def diceDrawsUptoRow : OpenClaim := { program := "ytfamcgmgcchppaa", sum := "c42d79eaedadd6ff55f761e9a4ba411ad4c7dced1d255f40d906f2ab091d098d", func := "hollowtree/hollowtreelaw09.DiceDraws", spec := "diceDraws", unfollowed := true, recurses := true, apart := false, narrowed := true }
def DiceDrawsUptoSaid : Prop := diceDrawsUptoRow.holds Try.pinned (OpenSpec.upto diceDrawsSpec)

/-- 'hollowtreelaw09.DiceForks', WHERE WHAT IT READS IS OF BULK AT MOST 1048576: true; the input reads as it did. -/
def diceForksUptoRow : OpenClaim := { program := "ytfamcgmgcchppaa", sum := "c42d79eaedadd6ff55f761e9a4ba411ad4c7dced1d255f40d906f2ab091d098d", func := "hollowtree/hollowtreelaw09.DiceForks", spec := "diceForks", unfollowed := true, recurses := true, apart := false, narrowed := true }
def DiceForksUptoSaid : Prop := diceForksUptoRow.holds Try.pinned (OpenSpec.upto diceForksSpec)

/-- 'hollowtreelaw09.DiceNone', WHERE WHAT IT READS IS OF BULK AT MOST 1048576: true; the input reads as it did. -/
def diceNoneUptoRow : OpenClaim := { program := "ytfamcgmgcchppaa", sum := "c42d79eaedadd6ff55f761e9a4ba411ad4c7dced1d255f40d906f2ab091d098d", func := "hollowtree/hollowtreelaw09.DiceNone", spec := "diceNone", unfollowed := true, recurses := true, apart := false, narrowed := true }
def DiceNoneUptoSaid : Prop := diceNoneUptoRow.holds Try.pinned (OpenSpec.upto diceNoneSpec)

/-- 'hollowtreelaw09.DiceApart', WHERE WHAT IT READS IS OF BULK AT MOST 1048576: true; the input reads as it did. -/
def diceApartUptoRow : OpenClaim := { program := "ytfamcgmgcchppaa", sum := "c42d79eaedadd6ff55f761e9a4ba411ad4c7dced1d255f40d906f2ab091d098d", func := "hollowtree/hollowtreelaw09.DiceApart", spec := "diceApart", unfollowed := true, recurses := true, apart := false, narrowed := true }
def DiceApartUptoSaid : Prop := diceApartUptoRow.holds Try.pinned (OpenSpec.upto diceApartSpec)

end Rows
end Go.Proofs.Ytfamcgmgcchppaa
