/- The small functions of chacha and of its reference: words of bytes, turns, quarters, quarters gone back. -/
import Derived.Test.YtfamcgmgcchppaaMix
import Derived.Test.YtfamcgmgcchppaaMem
import Derived.Test.YtfamcgmgcchppaaChaQuarter
import Derived.WalkSmall
namespace Go.Proofs.Ytfamcgmgcchppaa
open Go.RowKit
theorem conv8_32 (x : BitVec 8) : IntKind.u32.wrap (wb x) = wb (x.setWidth 32) := conv_u32 x
theorem shl24 (x : BitVec 32) : IntKind.u32.wrap (wb x * 16777216) = wb (x <<< 24) := shl_u32 x 24
theorem shl25 (x : BitVec 32) : IntKind.u32.wrap (wb x * 33554432) = wb (x <<< 25) := shl_u32 x 25
theorem shl20 (x : BitVec 32) : IntKind.u32.wrap (wb x * 1048576) = wb (x <<< 20) := shl_u32 x 20
theorem shr7 (x : BitVec 32) : wb x / (128 : Int) = wb (x >>> 7) := wb_shr x 7
theorem shr8 (x : BitVec 32) : wb x / (256 : Int) = wb (x >>> 8) := wb_shr x 8
theorem shr12 (x : BitVec 32) : wb x / (4096 : Int) = wb (x >>> 12) := wb_shr x 12
theorem or_zero32 (x : BitVec 32) : bits .or .u32 0 (wb x) = wb x := by
  have := bits_or_u32 0#32 x
  rw [BitVec.zero_or] at this
  exact this
attribute [local go_sem] add_u32 sub_u32 bits_xor_u32 bits_or_u32 shl7 shl8 shl12 shl16 shl24 shl25 shl20 shr7 shr8 shr12 shr16 shr20 shr24 shr25 conv8_32 or_zero32
set_option maxRecDepth 100000 in
set_option maxHeartbeats 1600000 in
/-- chacha.read: four bytes of a slice. -/
theorem read_any (g off n cap : Nat) (a b c d : BitVec 8) (w : World) (hn : 4 ≤ n)
   (h0 : w.cell? ⟨g, off, none⟩ = some (.int .u8 (wb a))) (h1 : w.cell? ⟨g, off + 1, none⟩ = some (.int .u8 (wb b))) (h2 : w.cell? ⟨g, off + 2, none⟩ = some (.int .u8 (wb c))) (h3 : w.cell? ⟨g, off + 3, none⟩ = some (.int .u8 (wb d))) :
   Calls Try.prog 54 #[.slice (some ⟨g, off, none⟩) n cap] w fun e w' => e = .returned (.int .u32 (wb (le4 a b c d))) ∧ w = w' := by
  go_enter Try.func54, Try.ntmps54
  go_wp2
  refine wp_loop_rounds 5 ?_
  iterate 5 (rw [rounds_succ]; go_wp2)
  go_ret
  exact ⟨rfl, rfl⟩
set_option maxRecDepth 100000 in
set_option maxHeartbeats 1600000 in
/-- hollowtreeref06.word: the same. -/
theorem word_any (g off n cap : Nat) (a b c d : BitVec 8) (w : World) (hn : 4 ≤ n)
   (h0 : w.cell? ⟨g, off, none⟩ = some (.int .u8 (wb a))) (h1 : w.cell? ⟨g, off + 1, none⟩ = some (.int .u8 (wb b))) (h2 : w.cell? ⟨g, off + 2, none⟩ = some (.int .u8 (wb c))) (h3 : w.cell? ⟨g, off + 3, none⟩ = some (.int .u8 (wb d))) :
   Calls Try.prog 41 #[.slice (some ⟨g, off, none⟩) n cap] w fun e w' => e = .returned (.int .u32 (wb (le4 a b c d))) ∧ ∃ m, w' = w.drewN m := by
  have n0 : (0 : Int) < (n : Int) := by omega
  have n1 : (1 : Int) < (n : Int) := by omega
  have n2 : (2 : Int) < (n : Int) := by omega
  have n3 : (3 : Int) < (n : Int) := by omega
  go_enter Try.func41, Try.ntmps41
  go_wp2
  go_quiet (fail)
  go_wp2
  go_ret
  refine ⟨?_, _, rfl⟩
  rw [← le4_flat]
  rfl
set_option maxRecDepth 100000 in
set_option maxHeartbeats 1600000 in
/-- hollowtreeref06.left. -/
theorem left_any (x : BitVec 32) (i : Int) (h0 : 0 ≤ i) (hi : i ≤ 32) (w : World) :
   Calls Try.prog 52 #[.int .u32 (wb x), .int .i64 i] w fun e w' => e = .returned (.int .u32 (wb (rl x i.toNat))) ∧ ∃ m, w' = w.drewN m := by
  obtain ⟨i, rfl⟩ := Int.eq_ofNat_of_zero_le h0
  rw [Int.toNat_natCast]
  have h1 : (0 : Int) ≤ 32 - (i : Int) := by omega
  have h2 : (i : Int) ≤ 32 := by omega
  go_enter Try.func52, Try.ntmps52
  go_wp2
  go_quiet (fail)
  go_wp2
  go_ret
  have e1 : wb x * 2 ^ i % 4294967296 = wb (x <<< i) := by rw [← IntKind.wrap_u32]; exact shl_u32 x i
  refine ⟨?_, _, rfl⟩
  simp only [Array.getD_eq_getD_getElem?, List.getElem?_toArray, List.getElem?_cons_succ, List.getElem?_cons_zero, Option.getD_some]
  rw [e1, wb_shr, bits_or_u32]
  rfl
set_option maxRecDepth 100000 in
set_option maxHeartbeats 1600000 in
/-- hollowtreeref06.Quarter. -/
theorem refQuarter_any (a b c d : BitVec 32) (w : World) :
   Calls Try.prog 43 #[.agg #[.int .u32 (wb a), .int .u32 (wb b), .int .u32 (wb c), .int .u32 (wb d)]] w fun e w' => e = .returned (.agg #[.int .u32 (wb (qr a b c d).a), .int .u32 (wb (qr a b c d).b), .int .u32 (wb (qr a b c d).c), .int .u32 (wb (qr a b c d).d)]) ∧ Below w.heap.size w w' := by
  go_enter Try.func43, Try.ntmps43
  go_wp2
  go_quiet (fail)
  go_wp2_with (go_at_call 52; refine (left_any _ _ (by omega) (by omega) _).mono ?_; rintro e w' ⟨rfl, m, rfl⟩)
  refine bodyPost_ret (v := .agg #[.int .u32 (wb (qr a b c d).a), .int .u32 (wb (qr a b c d).b), .int .u32 (wb (qr a b c d).c), .int .u32 (wb (qr a b c d).d)]) ?_ rfl ⟨rfl, ?_⟩
  · simp [results, Try.results43, go_sem]
    exact ⟨rfl, rfl, rfl, rfl⟩
  · repeat' (first | exact Below.refl _ _ | refine Below.alloc ?_ ?_ _ | refine Below.setCell ?_ ?_ _ | refine below_drewN ?_ _ | refine Below.drew ?_ | (simp; done) | (simp; omega))
end Go.Proofs.Ytfamcgmgcchppaa
