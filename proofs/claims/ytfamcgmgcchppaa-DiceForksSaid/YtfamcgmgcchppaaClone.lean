/- slices.Clone of bytes: nil, or a row of the call's own. -/
import Derived.Test.YtfamcgmgcchppaaRow
import Derived.Test.YtfamcgmgcchppaaProg
import Derived.WalkSpells
namespace Go.Proofs.Ytfamcgmgcchppaa
open Go.RowKit
theorem bytesT : ElemT Try.prog 22 5 (.int .u8 0) 1 1 := ⟨Try.underlying22, by kernel_rfl, rfl, by decide, by decide⟩
theorem rd_none {w : World} {k : IntKind} {n : Nat} {l : List (BitVec n)} (h : Rd w k none l) : l = [] := by
  cases l with
  | nil => rfl
  | cons x l => obtain ⟨_, _, h, _⟩ := h 0 (by simp); cases h
end Go.Proofs.Ytfamcgmgcchppaa
