/-
  No cell of these rows narrows 'for every input' (looked for: loops, veiled, ifaces, maps, wideKeys, modest, calm, conditions, laid).
  DERIVED. THE GIVEN ROWS OF THIS SEAT. 8 by the template 'for every input the law returns true; each argument reads behind the call as it read before'; 0 by the template 'total and deterministic' (their statements: YtjnbgoiaocpcjaaTotals.lean).
  GIVEN WITH THE SEED: the statements are not yours to turn. If you find one false, say at which input.
  Laid BY PROGRAM, IN A SANDBOX (cutbox-rows.mjs): the forced cells as the released guide's own fill.sh prints them over the translation 8e18b78fc8b5ca2a… (all of the seat's roots in one cut). By AI agents, Wed Nov 11 2026. No macro, syntax, notation, axiom, sorry.
-/
import Derived.Test.YtjnbgoiaocpcjaaChecked
import GoSem.Claim
import GoSem.ClaimJoined
import GoSem.ClaimMapViews
import Derived.JoinedTies
import Derived.KernelRfl
namespace Go.Proofs.Ytjnbgoiaocpcjaa
/- THE CELL 'sum', in the pinned program and in every row, IS THE sha256 OF THE DUMP (.gsa) THAT YtjnbgoiaocpcjaaProg.lean LOADS. Nothing in Lean hashes anything: it is a label: what it is worth is what the hold of that sum in a sandbox is worth. -/
noncomputable def Try.pinned : Pinned := { name := "ytjnbgoiaocpcjaa", sum := "8e18b78fc8b5ca2ae96dfc2624416726306f35998a6eda5fdb5c25365ec9e6ce", checked := Try.checked }
namespace Rows
def none {H : Type} : Left H := { results := [], args := [] }

/-- 'hollowtreelaw14.FrameSizes': WHATEVER THE INPUT: true; the input reads as it did. -/
def frameSizesSpec : ChangeSpec := { name := "frameSizes", fn := fun _ => fun
  | [d] => { results := [.lit (.bool true)], args := [d] }
  | _ => none }
def frameSizesRow : OpenClaim := { program := "ytjnbgoiaocpcjaa", sum := "8e18b78fc8b5ca2ae96dfc2624416726306f35998a6eda5fdb5c25365ec9e6ce", func := "hollowtree/hollowtreelaw14.FrameSizes", spec := "frameSizes", apart := false }
def FrameSizesSaid : Prop := frameSizesRow.holds Try.pinned (OpenSpec.ofChange frameSizesSpec)

/-- ITS FALSE NEIGHBOUR: 'it returns false'. Refute it at one input. -/
def frameSizesWrong : ChangeSpec := { name := "frameSizes", fn := fun _ => fun
  | [d] => { results := [.lit (.bool false)], args := [d] }
  | _ => none }
def FrameSizesWrongFalsely : Prop := frameSizesRow.holds Try.pinned (OpenSpec.ofChange frameSizesWrong)

/-- 'hollowtreelaw14.FrameMessages': WHATEVER THE INPUT: true; the input reads as it did. -/
def frameMessagesSpec : ChangeSpec := { name := "frameMessages", fn := fun _ => fun
  | [d1, d2, d3] => { results := [.lit (.bool true)], args := [d1, d2, d3] }
  | _ => none }
def frameMessagesRow : OpenClaim := { program := "ytjnbgoiaocpcjaa", sum := "8e18b78fc8b5ca2ae96dfc2624416726306f35998a6eda5fdb5c25365ec9e6ce", func := "hollowtree/hollowtreelaw14.FrameMessages", spec := "frameMessages", apart := false }
def FrameMessagesSaid : Prop := frameMessagesRow.holds Try.pinned (OpenSpec.ofChange frameMessagesSpec)

/-- ITS FALSE NEIGHBOUR: 'it returns false'. Refute it at one input. -/
def frameMessagesWrong : ChangeSpec := { name := "frameMessages", fn := fun _ => fun
  | [d1, d2, d3] => { results := [.lit (.bool false)], args := [d1, d2, d3] }
  | _ => none }
def FrameMessagesWrongFalsely : Prop := frameMessagesRow.holds Try.pinned (OpenSpec.ofChange frameMessagesWrong)

/-- 'hollowtreelaw14.FramePackets': WHATEVER THE INPUT: true; the input reads as it did. -/
def framePacketsSpec : ChangeSpec := { name := "framePackets", fn := fun _ => fun
  | [d1, d2] => { results := [.lit (.bool true)], args := [d1, d2] }
  | _ => none }
def framePacketsRow : OpenClaim := { program := "ytjnbgoiaocpcjaa", sum := "8e18b78fc8b5ca2ae96dfc2624416726306f35998a6eda5fdb5c25365ec9e6ce", func := "hollowtree/hollowtreelaw14.FramePackets", spec := "framePackets", unfollowed := true, recurses := true, apart := false }
def FramePacketsSaid : Prop := framePacketsRow.holds Try.pinned (OpenSpec.ofChange framePacketsSpec)

/-- ITS FALSE NEIGHBOUR: 'it returns false'. Refute it at one input. -/
def framePacketsWrong : ChangeSpec := { name := "framePackets", fn := fun _ => fun
  | [d1, d2] => { results := [.lit (.bool false)], args := [d1, d2] }
  | _ => none }
def FramePacketsWrongFalsely : Prop := framePacketsRow.holds Try.pinned (OpenSpec.ofChange framePacketsWrong)

/-- 'hollowtreelaw14.FrameEnvelopes': WHATEVER THE INPUT: true; the input reads as it did. -/
def frameEnvelopesSpec : ChangeSpec := { name := "frameEnvelopes", fn := fun _ => fun
  | [d1, d2] => { results := [.lit (.bool true)], args := [d1, d2] }
  | _ => none }
def frameEnvelopesRow : OpenClaim := { program := "ytjnbgoiaocpcjaa", sum := "8e18b78fc8b5ca2ae96dfc2624416726306f35998a6eda5fdb5c25365ec9e6ce", func := "hollowtree/hollowtreelaw14.FrameEnvelopes", spec := "frameEnvelopes", apart := false }
def FrameEnvelopesSaid : Prop := frameEnvelopesRow.holds Try.pinned (OpenSpec.ofChange frameEnvelopesSpec)

/-- ITS FALSE NEIGHBOUR: 'it returns false'. Refute it at one input. -/
def frameEnvelopesWrong : ChangeSpec := { name := "frameEnvelopes", fn := fun _ => fun
  | [d1, d2] => { results := [.lit (.bool false)], args := [d1, d2] }
  | _ => none }
def FrameEnvelopesWrongFalsely : Prop := frameEnvelopesRow.holds Try.pinned (OpenSpec.ofChange frameEnvelopesWrong)

/-- 'hollowtreelaw14.FrameAnnounces': WHATEVER THE INPUT: true; the input reads as it did. -/
def frameAnnouncesSpec : ChangeSpec := { name := "frameAnnounces", fn := fun _ => fun
  | [d1, d2] => { results := [.lit (.bool true)], args := [d1, d2] }
  | _ => none }
def frameAnnouncesRow : OpenClaim := { program := "ytjnbgoiaocpcjaa", sum := "8e18b78fc8b5ca2ae96dfc2624416726306f35998a6eda5fdb5c25365ec9e6ce", func := "hollowtree/hollowtreelaw14.FrameAnnounces", spec := "frameAnnounces", apart := false }
def FrameAnnouncesSaid : Prop := frameAnnouncesRow.holds Try.pinned (OpenSpec.ofChange frameAnnouncesSpec)

/-- ITS FALSE NEIGHBOUR: 'it returns false'. Refute it at one input. -/
def frameAnnouncesWrong : ChangeSpec := { name := "frameAnnounces", fn := fun _ => fun
  | [d1, d2] => { results := [.lit (.bool false)], args := [d1, d2] }
  | _ => none }
def FrameAnnouncesWrongFalsely : Prop := frameAnnouncesRow.holds Try.pinned (OpenSpec.ofChange frameAnnouncesWrong)

/-- 'hollowtreelaw14.FrameBack': WHATEVER THE INPUT: true; the input reads as it did. -/
def frameBackSpec : ChangeSpec := { name := "frameBack", fn := fun _ => fun
  | [d1, d2, d3] => { results := [.lit (.bool true)], args := [d1, d2, d3] }
  | _ => none }
def frameBackRow : OpenClaim := { program := "ytjnbgoiaocpcjaa", sum := "8e18b78fc8b5ca2ae96dfc2624416726306f35998a6eda5fdb5c25365ec9e6ce", func := "hollowtree/hollowtreelaw14.FrameBack", spec := "frameBack", apart := false }
def FrameBackSaid : Prop := frameBackRow.holds Try.pinned (OpenSpec.ofChange frameBackSpec)

/-- ITS FALSE NEIGHBOUR: 'it returns false'. Refute it at one input. -/
def frameBackWrong : ChangeSpec := { name := "frameBack", fn := fun _ => fun
  | [d1, d2, d3] => { results := [.lit (.bool false)], args := [d1, d2, d3] }
  | _ => none }
def FrameBackWrongFalsely : Prop := frameBackRow.holds Try.pinned (OpenSpec.ofChange frameBackWrong)

/-- 'hollowtreelaw14.FrameReads': WHATEVER THE INPUT: true; the input reads as it did. -/
def frameReadsSpec : ChangeSpec := { name := "frameReads", fn := fun _ => fun
  | [d] => { results := [.lit (.bool true)], args := [d] }
  | _ => none }
def frameReadsRow : OpenClaim := { program := "ytjnbgoiaocpcjaa", sum := "8e18b78fc8b5ca2ae96dfc2624416726306f35998a6eda5fdb5c25365ec9e6ce", func := "hollowtree/hollowtreelaw14.FrameReads", spec := "frameReads", unfollowed := true, recurses := true, apart := false }
def FrameReadsSaid : Prop := frameReadsRow.holds Try.pinned (OpenSpec.ofChange frameReadsSpec)

/-- ITS FALSE NEIGHBOUR: 'it returns false'. Refute it at one input. -/
def frameReadsWrong : ChangeSpec := { name := "frameReads", fn := fun _ => fun
  | [d] => { results := [.lit (.bool false)], args := [d] }
  | _ => none }
def FrameReadsWrongFalsely : Prop := frameReadsRow.holds Try.pinned (OpenSpec.ofChange frameReadsWrong)

/-- 'hollowtreelaw14.FrameThere': WHATEVER THE INPUT: true; the input reads as it did. -/
def frameThereSpec : ChangeSpec := { name := "frameThere", fn := fun _ => fun
  | [d] => { results := [.lit (.bool true)], args := [d] }
  | _ => none }
def frameThereRow : OpenClaim := { program := "ytjnbgoiaocpcjaa", sum := "8e18b78fc8b5ca2ae96dfc2624416726306f35998a6eda5fdb5c25365ec9e6ce", func := "hollowtree/hollowtreelaw14.FrameThere", spec := "frameThere", unfollowed := true, recurses := true, apart := false }
def FrameThereSaid : Prop := frameThereRow.holds Try.pinned (OpenSpec.ofChange frameThereSpec)

/-- ITS FALSE NEIGHBOUR: 'it returns false'. Refute it at one input. -/
def frameThereWrong : ChangeSpec := { name := "frameThere", fn := fun _ => fun
  | [d] => { results := [.lit (.bool false)], args := [d] }
  | _ => none }
def FrameThereWrongFalsely : Prop := frameThereRow.holds Try.pinned (OpenSpec.ofChange frameThereWrong)

/- THE SECOND FORM. 'bulk': how many values and letters a reading holds, each counted each time it is reached (what is shared counts as often as it is met; a slice's spare places count too). A statement '..UptoSaid' is the law's where the arguments, and the package variables that the reading takes, are together of bulk at most 1048576: NARROWER than '..Said'. Prove '..Said' where nothing that the law and all that it calls make is longer than what came in: it says more and counts as full. Else prove '..UptoSaid'. A law counts once. -/
mutual
def uptoBulk {H : Type} : DataW H → Nat
  | .lit (.string bytes) => bytes.length + 1
  | .lit _ => 1
  | .nil => 1
  | .ptr d => uptoBulk d + 1
  | .slice elems spare => uptoBulkAll elems + uptoBulkAll spare + 1
  | .agg parts => uptoBulkAll parts + 1
  | .iface _ d => uptoBulk d + 1
  | .map entries => uptoBulkEntries entries + 1
  | .held _ => 1
def uptoBulkAll {H : Type} : List (DataW H) → Nat
  | [] => 0
  | d :: r => uptoBulk d + uptoBulkAll r
def uptoBulkEntries {H : Type} : List (Lit × DataW H) → Nat
  | [] => 0
  | x :: r => uptoBulkEntry x + uptoBulkEntries r
def uptoBulkEntry {H : Type} : Lit × DataW H → Nat
  | (.string bytes, d) => bytes.length + uptoBulk d + 1
  | (_, d) => uptoBulk d + 1
 end
def uptoSmall : (H : Type) → List (DataW H) → Bool := fun _ ds => decide (uptoBulkAll ds ≤ 1048576)
def OpenSpec.upto (s : _root_.Go.ChangeSpec) : _root_.Go.OpenSpec := { _root_.Go.OpenSpec.ofChange s with cond := some uptoSmall }

/-- 'hollowtreelaw14.FrameSizes', WHERE WHAT IT READS IS OF BULK AT MOST 1048576: true; the input reads as it did. -/
def frameSizesUptoRow : OpenClaim := { program := "ytjnbgoiaocpcjaa", sum := "8e18b78fc8b5ca2ae96dfc2624416726306f35998a6eda5fdb5c25365ec9e6ce", func := "hollowtree/hollowtreelaw14.FrameSizes", spec := "frameSizes", apart := false, narrowed := true }
def FrameSizesUptoSaid : Prop := frameSizesUptoRow.holds Try.pinned (OpenSpec.upto frameSizesSpec)

/-- 'hollowtreelaw14.FrameMessages', WHERE WHAT IT READS IS OF BULK AT MOST 1048576: true; the input reads as it did. -/
def frameMessagesUptoRow : OpenClaim := { program := "ytjnbgoiaocpcjaa", sum := "8e18b78fc8b5ca2ae96dfc2624416726306f35998a6eda5fdb5c25365ec9e6ce", func := "hollowtree/hollowtreelaw14.FrameMessages", spec := "frameMessages", apart := false, narrowed := true }
def FrameMessagesUptoSaid : Prop := frameMessagesUptoRow.holds Try.pinned (OpenSpec.upto frameMessagesSpec)

/-- 'hollowtreelaw14.FramePackets', WHERE WHAT IT READS IS OF BULK AT MOST 1048576: true; the input reads as it did. -/
def framePacketsUptoRow : OpenClaim := { program := "ytjnbgoiaocpcjaa", sum := "8e18b78fc8b5ca2ae96dfc2624416726306f35998a6eda5fdb5c25365ec9e6ce", func := "hollowtree/hollowtreelaw14.FramePackets", spec := "framePackets", unfollowed := true, recurses := true, apart := false, narrowed := true }
def FramePacketsUptoSaid : Prop := framePacketsUptoRow.holds Try.pinned (OpenSpec.upto framePacketsSpec)

/-- 'hollowtreelaw14.FrameEnvelopes', WHERE WHAT IT READS IS OF BULK AT MOST 1048576: true; the input reads as it did. -/
def frameEnvelopesUptoRow : OpenClaim := { program := "ytjnbgoiaocpcjaa", sum := "8e18b78fc8b5ca2ae96dfc2624416726306f35998a6eda5fdb5c25365ec9e6ce", func := "hollowtree/hollowtreelaw14.FrameEnvelopes", spec := "frameEnvelopes", apart := false, narrowed := true }
def FrameEnvelopesUptoSaid : Prop := frameEnvelopesUptoRow.holds Try.pinned (OpenSpec.upto frameEnvelopesSpec)

/-- 'hollowtreelaw14.FrameAnnounces', WHERE WHAT IT READS IS OF BULK AT MOST 1048576: true; the input reads as it did. -/
def frameAnnouncesUptoRow : OpenClaim := { program := "ytjnbgoiaocpcjaa", sum := "8e18b78fc8b5ca2ae96dfc2624416726306f35998a6eda5fdb5c25365ec9e6ce", func := "hollowtree/hollowtreelaw14.FrameAnnounces", spec := "frameAnnounces", apart := false, narrowed := true }
def FrameAnnouncesUptoSaid : Prop := frameAnnouncesUptoRow.holds Try.pinned (OpenSpec.upto frameAnnouncesSpec)

/-- 'hollowtreelaw14.FrameBack', WHERE WHAT IT READS IS OF BULK AT MOST 1048576: true; the input reads as it did. -/
def frameBackUptoRow : OpenClaim := { program := "ytjnbgoiaocpcjaa", sum := "8e18b78fc8b5ca2ae96dfc2624416726306f35998a6eda5fdb5c25365ec9e6ce", func := "hollowtree/hollowtreelaw14.FrameBack", spec := "frameBack", apart := false, narrowed := true }
def FrameBackUptoSaid : Prop := frameBackUptoRow.holds Try.pinned (OpenSpec.upto frameBackSpec)

/-- 'hollowtreelaw14.FrameReads', WHERE WHAT IT READS IS OF BULK AT MOST 1048576: true; the input reads as it did. -/
def frameReadsUptoRow : OpenClaim := { program := "ytjnbgoiaocpcjaa", sum := "8e18b78fc8b5ca2ae96dfc2624416726306f35998a6eda5fdb5c25365ec9e6ce", func := "hollowtree/hollowtreelaw14.FrameReads", spec := "frameReads", unfollowed := true, recurses := true, apart := false, narrowed := true }
def FrameReadsUptoSaid : Prop := frameReadsUptoRow.holds Try.pinned (OpenSpec.upto frameReadsSpec)

/-- 'hollowtreelaw14.FrameThere', WHERE WHAT IT READS IS OF BULK AT MOST 1048576: true; the input reads as it did. -/
def frameThereUptoRow : OpenClaim := { program := "ytjnbgoiaocpcjaa", sum := "8e18b78fc8b5ca2ae96dfc2624416726306f35998a6eda5fdb5c25365ec9e6ce", func := "hollowtree/hollowtreelaw14.FrameThere", spec := "frameThere", unfollowed := true, recurses := true, apart := false, narrowed := true }
def FrameThereUptoSaid : Prop := frameThereUptoRow.holds Try.pinned (OpenSpec.upto frameThereSpec)

end Rows
end Go.Proofs.Ytjnbgoiaocpcjaa
