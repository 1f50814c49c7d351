/- sha's turn and the reference's right: a word turned. -/
import Derived.Test.YtfamcgmgcchppaaShaPure
import Derived.Test.YtfamcgmgcchppaaPart
import Derived.Test.YtfamcgmgcchppaaProg
import Derived.WalkSpells
namespace Go.Proofs.Ytfamcgmgcchppaa
open Go.RowKit
theorem shr_32 (x : BitVec 32) (i : Nat) : wb x / 2 ^ i = wb (x >>> i) := wb_shr x i
attribute [local go_sem] shr_32 shl_u32 bits_or_u32
set_option maxHeartbeats 1000000 in
theorem turn_any (x : BitVec 32) (n : Nat) (hn : n < 32) (w : World) : Calls Try.prog 53 #[.int .u32 (wb x), .int .i64 n] w fun e w' => e = .returned (.int .u32 (wb (rotr x n))) ∧ w' = w.drew := by
  have h0 : (0 : Int) ≤ (n : Int) := by omega
  have h1 : (0 : Int) ≤ ((32 - n : Nat) : Int) := by omega
  have hsub : IntKind.i64.wrap (32 - (n : Int)) = ((32 - n : Nat) : Int) := by rw [IntWalk.i64_in _ (by omega)]; omega
  have hr : Hid (x >>> n ||| x <<< min (32 - n) 32 = rotr x n) := by show _ = _; rw [Nat.min_eq_left (by omega)]; rfl
  generalize 32 - n = m at *
  go_enter Try.func53, Try.ntmps53
  go_wp2_with fail
  refine mix_start (fun _ => True) (List.range 9) [] [] [] (by kernel_rfl) (by kernel_rfl) (fun d _ _ _ _ h => by cases d <;> exact h) trivial ?_
  repeat (refine mix_pure rfl rfl (fun K hK => ?_); go_simp; refine hK _ ?_; clear hK K)
  refine mix_nil ?_
  rw [hr.out]
  go_wp2_with fail
  go_ret
  exact ⟨rfl, rfl⟩
set_option maxHeartbeats 1000000 in
theorem right_any (x : BitVec 32) (n : Nat) (hn : n < 32) (w : World) : Calls Try.prog 40 #[.int .u32 (wb x), .int .i64 n] w fun e w' => e = .returned (.int .u32 (wb (rotr x n))) ∧ w' = w.drew := by
  have h0 : (0 : Int) ≤ (n : Int) := by omega
  have h1 : (0 : Int) ≤ ((32 - n : Nat) : Int) := by omega
  have hsub : IntKind.i64.wrap (32 - (n : Int)) = ((32 - n : Nat) : Int) := by rw [IntWalk.i64_in _ (by omega)]; omega
  have hr : Hid (x >>> n ||| x <<< min (32 - n) 32 = rotr x n) := by show _ = _; rw [Nat.min_eq_left (by omega)]; rfl
  generalize 32 - n = m at *
  go_enter Try.func40, Try.ntmps40
  go_wp2_with fail
  refine mix_start (fun _ => True) (List.range 9) [] [] [] (by kernel_rfl) (by kernel_rfl) (fun d _ _ _ _ h => by cases d <;> exact h) trivial ?_
  repeat (refine mix_pure rfl rfl (fun K hK => ?_); go_simp; refine hK _ ?_; clear hK K)
  refine mix_nil ?_
  rw [hr.out]
  go_wp2_with fail
  go_ret
  exact ⟨rfl, rfl⟩
end Go.Proofs.Ytfamcgmgcchppaa
