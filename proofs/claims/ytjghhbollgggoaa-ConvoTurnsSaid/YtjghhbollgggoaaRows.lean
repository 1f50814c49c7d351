/-
  No cell of these rows narrows 'for every input' (looked for: loops, veiled, ifaces, maps, wideKeys, modest, calm, conditions, laid).
  DERIVED. THE GIVEN ROWS OF THIS SEAT. 9 by the template 'for every input the law returns true; each argument reads behind the call as it read before'; 0 by the template 'total and deterministic' (their statements: YtjghhbollgggoaaTotals.lean).
  GIVEN WITH THE SEED: the statements are not yours to turn. If you find one false, say at which input.
  Laid BY PROGRAM, IN A SANDBOX (cutbox-rows.mjs): the forced cells as the released guide's own fill.sh prints them over the translation 3af98704ed4870e1… (all of the seat's roots in one cut). By AI agents, Wed Nov 11 2026. No macro, syntax, notation, axiom, sorry.
-/
import Derived.Test.YtjghhbollgggoaaChecked
import GoSem.Claim
import GoSem.ClaimJoined
import GoSem.ClaimMapViews
import Derived.JoinedTies
import Derived.KernelRfl
namespace Go.Proofs.Ytjghhbollgggoaa
/- THE CELL 'sum', in the pinned program and in every row, IS THE sha256 OF THE DUMP (.gsa) THAT YtjghhbollgggoaaProg.lean LOADS. Nothing in Lean hashes anything: it is a label: what it is worth is what the hold of that sum in a sandbox is worth. -/
noncomputable def Try.pinned : Pinned := { name := "ytjghhbollgggoaa", sum := "3af98704ed4870e14c4aa302ee724e742a5496aeb31c0cfea8af1c2cf8a6797a", checked := Try.checked }
namespace Rows
def none {H : Type} : Left H := { results := [], args := [] }

/-- 'hollowtreelaw18.ConvoSays': WHATEVER THE INPUT: true; the input reads as it did. -/
def convoSaysSpec : ChangeSpec := { name := "convoSays", fn := fun _ => fun
  | [d1, d2] => { results := [.lit (.bool true)], args := [d1, d2] }
  | _ => none }
def convoSaysRow : OpenClaim := { program := "ytjghhbollgggoaa", sum := "3af98704ed4870e14c4aa302ee724e742a5496aeb31c0cfea8af1c2cf8a6797a", func := "hollowtree/hollowtreelaw18.ConvoSays", spec := "convoSays", unfollowed := true, recurses := true, apart := false }
def ConvoSaysSaid : Prop := convoSaysRow.holds Try.pinned (OpenSpec.ofChange convoSaysSpec)

/-- ITS FALSE NEIGHBOUR: 'it returns false'. Refute it at one input. -/
def convoSaysWrong : ChangeSpec := { name := "convoSays", fn := fun _ => fun
  | [d1, d2] => { results := [.lit (.bool false)], args := [d1, d2] }
  | _ => none }
def ConvoSaysWrongFalsely : Prop := convoSaysRow.holds Try.pinned (OpenSpec.ofChange convoSaysWrong)

/-- 'hollowtreelaw18.ConvoSame': WHATEVER THE INPUT: true; the input reads as it did. -/
def convoSameSpec : ChangeSpec := { name := "convoSame", fn := fun _ => fun
  | [d1, d2] => { results := [.lit (.bool true)], args := [d1, d2] }
  | _ => none }
def convoSameRow : OpenClaim := { program := "ytjghhbollgggoaa", sum := "3af98704ed4870e14c4aa302ee724e742a5496aeb31c0cfea8af1c2cf8a6797a", func := "hollowtree/hollowtreelaw18.ConvoSame", spec := "convoSame", unfollowed := true, recurses := true, apart := false }
def ConvoSameSaid : Prop := convoSameRow.holds Try.pinned (OpenSpec.ofChange convoSameSpec)

/-- ITS FALSE NEIGHBOUR: 'it returns false'. Refute it at one input. -/
def convoSameWrong : ChangeSpec := { name := "convoSame", fn := fun _ => fun
  | [d1, d2] => { results := [.lit (.bool false)], args := [d1, d2] }
  | _ => none }
def ConvoSameWrongFalsely : Prop := convoSameRow.holds Try.pinned (OpenSpec.ofChange convoSameWrong)

/-- 'hollowtreelaw18.ConvoTurns': WHATEVER THE INPUT: true; the input reads as it did. -/
def convoTurnsSpec : ChangeSpec := { name := "convoTurns", fn := fun _ => fun
  | [d] => { results := [.lit (.bool true)], args := [d] }
  | _ => none }
def convoTurnsRow : OpenClaim := { program := "ytjghhbollgggoaa", sum := "3af98704ed4870e14c4aa302ee724e742a5496aeb31c0cfea8af1c2cf8a6797a", func := "hollowtree/hollowtreelaw18.ConvoTurns", spec := "convoTurns", unfollowed := true, recurses := true, apart := false }
def ConvoTurnsSaid : Prop := convoTurnsRow.holds Try.pinned (OpenSpec.ofChange convoTurnsSpec)

/-- ITS FALSE NEIGHBOUR: 'it returns false'. Refute it at one input. -/
def convoTurnsWrong : ChangeSpec := { name := "convoTurns", fn := fun _ => fun
  | [d] => { results := [.lit (.bool false)], args := [d] }
  | _ => none }
def ConvoTurnsWrongFalsely : Prop := convoTurnsRow.holds Try.pinned (OpenSpec.ofChange convoTurnsWrong)

/-- 'hollowtreelaw18.ConvoAcks': WHATEVER THE INPUT: true; the input reads as it did. -/
def convoAcksSpec : ChangeSpec := { name := "convoAcks", fn := fun _ => fun
  | [d1, d2] => { results := [.lit (.bool true)], args := [d1, d2] }
  | _ => none }
def convoAcksRow : OpenClaim := { program := "ytjghhbollgggoaa", sum := "3af98704ed4870e14c4aa302ee724e742a5496aeb31c0cfea8af1c2cf8a6797a", func := "hollowtree/hollowtreelaw18.ConvoAcks", spec := "convoAcks", unfollowed := true, recurses := true, apart := false }
def ConvoAcksSaid : Prop := convoAcksRow.holds Try.pinned (OpenSpec.ofChange convoAcksSpec)

/-- ITS FALSE NEIGHBOUR: 'it returns false'. Refute it at one input. -/
def convoAcksWrong : ChangeSpec := { name := "convoAcks", fn := fun _ => fun
  | [d1, d2] => { results := [.lit (.bool false)], args := [d1, d2] }
  | _ => none }
def ConvoAcksWrongFalsely : Prop := convoAcksRow.holds Try.pinned (OpenSpec.ofChange convoAcksWrong)

/-- 'hollowtreelaw18.ConvoBytes': WHATEVER THE INPUT: true; the input reads as it did. -/
def convoBytesSpec : ChangeSpec := { name := "convoBytes", fn := fun _ => fun
  | [d1, d2] => { results := [.lit (.bool true)], args := [d1, d2] }
  | _ => none }
def convoBytesRow : OpenClaim := { program := "ytjghhbollgggoaa", sum := "3af98704ed4870e14c4aa302ee724e742a5496aeb31c0cfea8af1c2cf8a6797a", func := "hollowtree/hollowtreelaw18.ConvoBytes", spec := "convoBytes", unfollowed := true, recurses := true, apart := false }
def ConvoBytesSaid : Prop := convoBytesRow.holds Try.pinned (OpenSpec.ofChange convoBytesSpec)

/-- ITS FALSE NEIGHBOUR: 'it returns false'. Refute it at one input. -/
def convoBytesWrong : ChangeSpec := { name := "convoBytes", fn := fun _ => fun
  | [d1, d2] => { results := [.lit (.bool false)], args := [d1, d2] }
  | _ => none }
def ConvoBytesWrongFalsely : Prop := convoBytesRow.holds Try.pinned (OpenSpec.ofChange convoBytesWrong)

/-- 'hollowtreelaw18.ConvoBack': WHATEVER THE INPUT: true; the input reads as it did. -/
def convoBackSpec : ChangeSpec := { name := "convoBack", fn := fun _ => fun
  | [d1, d2] => { results := [.lit (.bool true)], args := [d1, d2] }
  | _ => none }
def convoBackRow : OpenClaim := { program := "ytjghhbollgggoaa", sum := "3af98704ed4870e14c4aa302ee724e742a5496aeb31c0cfea8af1c2cf8a6797a", func := "hollowtree/hollowtreelaw18.ConvoBack", spec := "convoBack", unfollowed := true, recurses := true, apart := false }
def ConvoBackSaid : Prop := convoBackRow.holds Try.pinned (OpenSpec.ofChange convoBackSpec)

/-- ITS FALSE NEIGHBOUR: 'it returns false'. Refute it at one input. -/
def convoBackWrong : ChangeSpec := { name := "convoBack", fn := fun _ => fun
  | [d1, d2] => { results := [.lit (.bool false)], args := [d1, d2] }
  | _ => none }
def ConvoBackWrongFalsely : Prop := convoBackRow.holds Try.pinned (OpenSpec.ofChange convoBackWrong)

/-- 'hollowtreelaw18.ConvoHears': WHATEVER THE INPUT: true; the input reads as it did. -/
def convoHearsSpec : ChangeSpec := { name := "convoHears", fn := fun _ => fun
  | [d1, d2, d3] => { results := [.lit (.bool true)], args := [d1, d2, d3] }
  | _ => none }
def convoHearsRow : OpenClaim := { program := "ytjghhbollgggoaa", sum := "3af98704ed4870e14c4aa302ee724e742a5496aeb31c0cfea8af1c2cf8a6797a", func := "hollowtree/hollowtreelaw18.ConvoHears", spec := "convoHears", inPlace := ["slices.overlaps[hollowtree/api.In]"], unfollowed := true, recurses := true, apart := false }
def ConvoHearsSaid : Prop := convoHearsRow.holds Try.pinned (OpenSpec.ofChange convoHearsSpec)

/-- ITS FALSE NEIGHBOUR: 'it returns false'. Refute it at one input. -/
def convoHearsWrong : ChangeSpec := { name := "convoHears", fn := fun _ => fun
  | [d1, d2, d3] => { results := [.lit (.bool false)], args := [d1, d2, d3] }
  | _ => none }
def ConvoHearsWrongFalsely : Prop := convoHearsRow.holds Try.pinned (OpenSpec.ofChange convoHearsWrong)

/-- 'hollowtreelaw18.ConvoOrder': WHATEVER THE INPUT: true; the input reads as it did. -/
def convoOrderSpec : ChangeSpec := { name := "convoOrder", fn := fun _ => fun
  | [d] => { results := [.lit (.bool true)], args := [d] }
  | _ => none }
def convoOrderRow : OpenClaim := { program := "ytjghhbollgggoaa", sum := "3af98704ed4870e14c4aa302ee724e742a5496aeb31c0cfea8af1c2cf8a6797a", func := "hollowtree/hollowtreelaw18.ConvoOrder", spec := "convoOrder", inPlace := ["slices.overlaps[hollowtree/api.In]"], unfollowed := true, recurses := true, apart := false }
def ConvoOrderSaid : Prop := convoOrderRow.holds Try.pinned (OpenSpec.ofChange convoOrderSpec)

/-- ITS FALSE NEIGHBOUR: 'it returns false'. Refute it at one input. -/
def convoOrderWrong : ChangeSpec := { name := "convoOrder", fn := fun _ => fun
  | [d] => { results := [.lit (.bool false)], args := [d] }
  | _ => none }
def ConvoOrderWrongFalsely : Prop := convoOrderRow.holds Try.pinned (OpenSpec.ofChange convoOrderWrong)

/-- 'hollowtreelaw18.ConvoDelivers': WHATEVER THE INPUT: true; the input reads as it did. -/
def convoDeliversSpec : ChangeSpec := { name := "convoDelivers", fn := fun _ => fun
  | [d] => { results := [.lit (.bool true)], args := [d] }
  | _ => none }
def convoDeliversRow : OpenClaim := { program := "ytjghhbollgggoaa", sum := "3af98704ed4870e14c4aa302ee724e742a5496aeb31c0cfea8af1c2cf8a6797a", func := "hollowtree/hollowtreelaw18.ConvoDelivers", spec := "convoDelivers", inPlace := ["slices.overlaps[hollowtree/api.In]"], unfollowed := true, recurses := true, apart := false }
def ConvoDeliversSaid : Prop := convoDeliversRow.holds Try.pinned (OpenSpec.ofChange convoDeliversSpec)

/-- ITS FALSE NEIGHBOUR: 'it returns false'. Refute it at one input. -/
def convoDeliversWrong : ChangeSpec := { name := "convoDelivers", fn := fun _ => fun
  | [d] => { results := [.lit (.bool false)], args := [d] }
  | _ => none }
def ConvoDeliversWrongFalsely : Prop := convoDeliversRow.holds Try.pinned (OpenSpec.ofChange convoDeliversWrong)

/- THE SECOND FORM. 'bulk': how many values and letters a reading holds, each counted each time it is reached (what is shared counts as often as it is met; a slice's spare places count too). A statement '..UptoSaid' is the law's where the arguments, and the package variables that the reading takes, are together of bulk at most 1048576: NARROWER than '..Said'. Prove '..Said' where nothing that the law and all that it calls make is longer than what came in: it says more and counts as full. Else prove '..UptoSaid'. A law counts once. -/
mutual
def uptoBulk {H : Type} : DataW H → Nat
  | .lit (.string bytes) => bytes.length + 1
  | .lit _ => 1
  | .nil => 1
  | .ptr d => uptoBulk d + 1
  | .slice elems spare => uptoBulkAll elems + uptoBulkAll spare + 1
  | .agg parts => uptoBulkAll parts + 1
  | .iface _ d => uptoBulk d + 1
  | .map entries => uptoBulkEntries entries + 1
  | .held _ => 1
def uptoBulkAll {H : Type} : List (DataW H) → Nat
  | [] => 0
  | d :: r => uptoBulk d + uptoBulkAll r
def uptoBulkEntries {H : Type} : List (Lit × DataW H) → Nat
  | [] => 0
  | x :: r => uptoBulkEntry x + uptoBulkEntries r
def uptoBulkEntry {H : Type} : Lit × DataW H → Nat
  | (.string bytes, d) => bytes.length + uptoBulk d + 1
  | (_, d) => uptoBulk d + 1
 end
def uptoSmall : (H : Type) → List (DataW H) → Bool := fun _ ds => decide (uptoBulkAll ds ≤ 1048576)
def OpenSpec.upto (s : _root_.Go.ChangeSpec) : _root_.Go.OpenSpec := { _root_.Go.OpenSpec.ofChange s with cond := some uptoSmall }

/-- 'hollowtreelaw18.ConvoSays', WHERE WHAT IT READS IS OF BULK AT MOST 1048576: true; the input reads as it did. -/
def convoSaysUptoRow : OpenClaim := { program := "ytjghhbollgggoaa", sum := "3af98704ed4870e14c4aa302ee724e742a5496aeb31c0cfea8af1c2cf8a6797a", func := "hollowtree/hollowtreelaw18.ConvoSays", spec := "convoSays", unfollowed := true, recurses := true, apart := false, narrowed := true }
def ConvoSaysUptoSaid : Prop := convoSaysUptoRow.holds Try.pinned (OpenSpec.upto convoSaysSpec)

/-- 'hollowtreelaw18.ConvoSame', WHERE WHAT IT READS IS OF BULK AT MOST 1048576: true; the input reads as it did. -/
def convoSameUptoRow : OpenClaim := { program := "ytjghhbollgggoaa", sum := "3af98704ed4870e14c4aa302ee724e742a5496aeb31c0cfea8af1c2cf8a6797a", func := "hollowtree/hollowtreelaw18.ConvoSame", spec := "convoSame", unfollowed := true, recurses := true, apart := false, narrowed := true }
def ConvoSameUptoSaid : Prop := convoSameUptoRow.holds Try.pinned (OpenSpec.upto convoSameSpec)

/-- 'hollowtreelaw18.ConvoTurns', WHERE WHAT IT READS IS OF BULK AT MOST 1048576: true; the input reads as it did. -/
def convoTurnsUptoRow : OpenClaim := { program := "ytjghhbollgggoaa", sum := "3af98704ed4870e14c4aa302ee724e742a5496aeb31c0cfea8af1c2cf8a6797a", func := "hollowtree/hollowtreelaw18.ConvoTurns", spec := "convoTurns", unfollowed := true, recurses := true, apart := false, narrowed := true }
def ConvoTurnsUptoSaid : Prop := convoTurnsUptoRow.holds Try.pinned (OpenSpec.upto convoTurnsSpec)

/-- 'hollowtreelaw18.ConvoAcks', WHERE WHAT IT READS IS OF BULK AT MOST 1048576: true; the input reads as it did. -/
def convoAcksUptoRow : OpenClaim := { program := "ytjghhbollgggoaa", sum := "3af98704ed4870e14c4aa302ee724e742a5496aeb31c0cfea8af1c2cf8a6797a", func := "hollowtree/hollowtreelaw18.ConvoAcks", spec := "convoAcks", unfollowed := true, recurses := true, apart := false, narrowed := true }
def ConvoAcksUptoSaid : Prop := convoAcksUptoRow.holds Try.pinned (OpenSpec.upto convoAcksSpec)

/-- 'hollowtreelaw18.ConvoBytes', WHERE WHAT IT READS IS OF BULK AT MOST 1048576: true; the input reads as it did. -/
def convoBytesUptoRow : OpenClaim := { program := "ytjghhbollgggoaa", sum := "3af98704ed4870e14c4aa302ee724e742a5496aeb31c0cfea8af1c2cf8a6797a", func := "hollowtree/hollowtreelaw18.ConvoBytes", spec := "convoBytes", unfollowed := true, recurses := true, apart := false, narrowed := true }
def ConvoBytesUptoSaid : Prop := convoBytesUptoRow.holds Try.pinned (OpenSpec.upto convoBytesSpec)

/-- 'hollowtreelaw18.ConvoBack', WHERE WHAT IT READS IS OF BULK AT MOST 1048576: true; the input reads as it did. -/
def convoBackUptoRow : OpenClaim := { program := "ytjghhbollgggoaa", sum := "3af98704ed4870e14c4aa302ee724e742a5496aeb31c0cfea8af1c2cf8a6797a", func := "hollowtree/hollowtreelaw18.ConvoBack", spec := "convoBack", unfollowed := true, recurses := true, apart := false, narrowed := true }
def ConvoBackUptoSaid : Prop := convoBackUptoRow.holds Try.pinned (OpenSpec.upto convoBackSpec)

/-- 'hollowtreelaw18.ConvoHears', WHERE WHAT IT READS IS OF BULK AT MOST 1048576: true; the input reads as it did. -/
def convoHearsUptoRow : OpenClaim := { program := "ytjghhbollgggoaa", sum := "3af98704ed4870e14c4aa302ee724e742a5496aeb31c0cfea8af1c2cf8a6797a", func := "hollowtree/hollowtreelaw18.ConvoHears", spec := "convoHears", inPlace := ["slices.overlaps[hollowtree/api.In]"], unfollowed := true, recurses := true, apart := false, narrowed := true }
def ConvoHearsUptoSaid : Prop := convoHearsUptoRow.holds Try.pinned (OpenSpec.upto convoHearsSpec)

/-- 'hollowtreelaw18.ConvoOrder', WHERE WHAT IT READS IS OF BULK AT MOST 1048576: true; the input reads as it did. -/
def convoOrderUptoRow : OpenClaim := { program := "ytjghhbollgggoaa", sum := "3af98704ed4870e14c4aa302ee724e742a5496aeb31c0cfea8af1c2cf8a6797a", func := "hollowtree/hollowtreelaw18.ConvoOrder", spec := "convoOrder", inPlace := ["slices.overlaps[hollowtree/api.In]"], unfollowed := true, recurses := true, apart := false, narrowed := true }
def ConvoOrderUptoSaid : Prop := convoOrderUptoRow.holds Try.pinned (OpenSpec.upto convoOrderSpec)

/-- 'hollowtreelaw18.ConvoDelivers', WHERE WHAT IT READS IS OF BULK AT MOST 1048576: true; the input reads as it did. -/
def convoDeliversUptoRow : OpenClaim := { program := "ytjghhbollgggoaa", sum := "3af98704ed4870e14c4aa302ee724e742a5496aeb31c0cfea8af1c2cf8a6797a", func := "hollowtree/hollowtreelaw18.ConvoDelivers", spec := "convoDelivers", inPlace := ["slices.overlaps[hollowtree/api.In]"], unfollowed := true, recurses := true, apart := false, narrowed := true }
def ConvoDeliversUptoSaid : Prop := convoDeliversUptoRow.holds Try.pinned (OpenSpec.upto convoDeliversSpec)

end Rows
end Go.Proofs.Ytjghhbollgggoaa
