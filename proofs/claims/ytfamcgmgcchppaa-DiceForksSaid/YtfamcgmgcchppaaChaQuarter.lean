/- What chacha.Quarter makes of four words. -/
import Derived.Test.YtfamcgmgcchppaaProg
import Derived.Test.YtfamcgmgcchppaaBits
import Derived.Test.YtfamcgmgcchppaaChaPure
namespace Go.Proofs.Ytfamcgmgcchppaa
open Go.RowKit
theorem shl7 (x : BitVec 32) : IntKind.u32.wrap (wb x * 128) = wb (x <<< 7) := shl_u32 x 7
theorem shl8 (x : BitVec 32) : IntKind.u32.wrap (wb x * 256) = wb (x <<< 8) := shl_u32 x 8
theorem shl12 (x : BitVec 32) : IntKind.u32.wrap (wb x * 4096) = wb (x <<< 12) := shl_u32 x 12
theorem shl16 (x : BitVec 32) : IntKind.u32.wrap (wb x * 65536) = wb (x <<< 16) := shl_u32 x 16
theorem shr16 (x : BitVec 32) : wb x / (65536 : Int) = wb (x >>> 16) := wb_shr x 16
theorem shr20 (x : BitVec 32) : wb x / (1048576 : Int) = wb (x >>> 20) := wb_shr x 20
theorem shr24 (x : BitVec 32) : wb x / (16777216 : Int) = wb (x >>> 24) := wb_shr x 24
theorem shr25 (x : BitVec 32) : wb x / (33554432 : Int) = wb (x >>> 25) := wb_shr x 25
attribute [local go_sem] add_u32 bits_xor_u32 bits_or_u32 shl7 shl8 shl12 shl16 shr16 shr20 shr24 shr25
set_option maxRecDepth 100000 in
set_option maxHeartbeats 800000 in
theorem quarter_any (a b c d : BitVec 32) (w : World) : Calls Try.prog 51 #[.int .u32 (wb a), .int .u32 (wb b), .int .u32 (wb c), .int .u32 (wb d)] w fun e w' => e = .returned (.tuple #[.int .u32 (wb (qr a b c d).a), .int .u32 (wb (qr a b c d).b), .int .u32 (wb (qr a b c d).c), .int .u32 (wb (qr a b c d).d)]) ∧ w = w' := by
  go_enter Try.func51, Try.ntmps51
  go_wp2
  exact bodyPost_ret (by simp [results, Try.results51, go_sem]; exact ⟨rfl, rfl, rfl, rfl⟩) rfl ⟨rfl, rfl⟩
end Go.Proofs.Ytfamcgmgcchppaa
