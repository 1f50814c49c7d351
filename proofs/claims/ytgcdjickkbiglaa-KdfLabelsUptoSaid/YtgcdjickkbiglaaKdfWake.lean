/- The code that the layer wakes by, reckoned. -/
import Derived.Test.YtgcdjickkbiglaaKdfPure
namespace Go.Proofs.Ytgcdjickkbiglaa
open Go.RowKit
def jefe : List (BitVec 8) := [74, 101, 102, 101]
/-- "what do ya want for nothing?" -/
def wake1 : List (BitVec 8) := [119, 104, 97, 116, 32, 100, 111, 32, 121, 97, 32, 119, 97, 110, 116, 32]
def wake2 : List (BitVec 8) := [102, 111, 114, 32, 110, 111, 116, 104, 105, 110, 103, 63]
set_option maxRecDepth 100000 in
theorem wake_0 : (hmac jefe [wake1, wake2].flatten).getD 0 0 = 91 := by decide +kernel
set_option maxRecDepth 100000 in
theorem wake_31 : (hmac jefe [wake1, wake2].flatten).getD 31 0 = 67 := by decide +kernel
end Go.Proofs.Ytgcdjickkbiglaa
