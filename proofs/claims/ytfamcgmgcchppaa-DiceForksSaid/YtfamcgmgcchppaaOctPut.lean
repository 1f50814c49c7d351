/- octet.put and its kin: a number's lowest bytes behind other bytes, in a row of the call's own. -/
import Derived.Test.YtfamcgmgcchppaaClone
import Derived.Test.YtfamcgmgcchppaaOctPure
namespace Go.Proofs.Ytfamcgmgcchppaa
open Go.RowKit
theorem conv64_8 (x : BitVec 64) : IntKind.u8.wrap (wb x) = wb (x.setWidth 8) := conv_u8 x
theorem shr8_64 (x : BitVec 64) : wb x / (256 : Int) = wb (x >>> 8) := wb_shr x 8
attribute [local go_sem] conv64_8 shr8_64
theorem conv16_64 (x : BitVec 16) : IntKind.u64.wrap (wb x) = wb (x.setWidth 64) := conv_u64 x
theorem conv32_64 (x : BitVec 32) : IntKind.u64.wrap (wb x) = wb (x.setWidth 64) := conv_u64 x
attribute [local go_sem] conv16_64 conv32_64
end Go.Proofs.Ytfamcgmgcchppaa
