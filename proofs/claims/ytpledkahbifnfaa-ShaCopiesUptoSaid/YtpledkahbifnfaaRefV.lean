/- The reference at opaque values. -/
import Derived.Test.YtpledkahbifnfaaShaRef
import Derived.Test.YtpledkahbifnfaaWakes
namespace Go.Proofs.Ytpledkahbifnfaa
open Go.RowKit
theorem rsum_v {w : World} {v : Value} {b : List (BitVec 8)} (h : Arg w v b) (hlen : b.length ≤ 140737488500000) : Calls Try.prog 16 #[v] w fun e w' => e = .returned (.agg (encs .u8 (sha b))) ∧ Below w.heap.size w w' := by
  obtain ⟨A, cap, rfl, hc, hr⟩ := h
  exact rsum_any b A cap w hr hc hlen
end Go.Proofs.Ytpledkahbifnfaa
