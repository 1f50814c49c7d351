/- The walk of ChachaBlocks. -/
import Derived.Test.YtdpdpeifmignnaaWakes
import Derived.Test.YtdpdpeifmignnaaPart
import Derived.Test.YtdpdpeifmignnaaArrEq
import Derived.Test.YtdpdpeifmignnaaRefBlk
namespace Go.Proofs.Ytdpdpeifmignnaa
open Go.RowKit
theorem eq64 (l : List (BitVec 8)) (hl : l.length = 64) (wx : World) : (Op.equalIn 10000 30 (.agg (encs .u8 l)) (.agg (encs .u8 l))).run Try.prog wx = .ok true wx := by
  rw [show (10000 : Nat) = 9998 + 2 from rfl, run_equalIn_encs wx 9998 30 5 .u8 64 Try.underlying30 Try.underlying5 (by kernel_rfl) l l hl hl]
  simp
set_option maxHeartbeats 4000000 in
theorem blocks_walk (key nonce : List (BitVec 8)) (ctr : BitVec 32) (hk : key.length = 32) (hn : nonce.length = 12) (w : World) :
    Calls Try.prog 3 #[.agg (usedC key ctr nonce)] w fun e w' => e = .returned (.bool true) ∧ Below w.heap.size w w' := by
  have HK := Lib.hid hk
  have HN := Lib.hid hn
  clear hk hn
  obtain ⟨cb, heq, H11, H12⟩ : ∃ cb : List (BitVec 8), (∀ wx, (Op.equalIn 10000 30 (.agg (encs .u8 cb)) (.agg (encs .u8 cb))).run Try.prog wx = .ok true wx) ∧
      Hid (∀ w : World, Calls Try.prog 11 #[.agg (encs .u8 key), .int .u32 (wb ctr), .agg (encs .u8 nonce)] w fun e w' => e = .returned (.agg (encs .u8 cb)) ∧ Below w.heap.size w w') ∧
      Hid (∀ w : World, Calls Try.prog 12 #[.agg (encs .u8 key), .int .u32 (wb ctr), .agg (encs .u8 nonce)] w fun e w' => e = .returned (.agg (encs .u8 cb)) ∧ Below w.heap.size w w') :=
    ⟨chBlock key ctr nonce, fun wx => eq64 _ (chBlock_length key ctr nonce) wx, Lib.hid fun w => block_any key nonce ctr HK.out HN.out w, Lib.hid fun w => refBlock_any key nonce ctr HK.out HN.out w⟩
  go_enter Try.func3, Try.ntmps3
  go_wp2_with fail
  refine (wakes_any _).mono ?_
  rintro e w1 ⟨rfl, hb1⟩
  have hB : Blk w1 w.heap.size (usedC key ctr nonce) 28 := (Blk.new w _ _).below hb1 (by simp)
  have hb : Below w.heap.size w w1 := ((Below.refl _ _).alloc (Nat.le_refl _) _).trans (hb1.mono (by simp))
  clear hb1
  have hct : w1.cell? ⟨w.heap.size, 32, none⟩ = some (.int .u32 (wb ctr)) := by rw [hB.cell, usedC_ctr key ctr nonce HK.out]
  go_wp2_with fail
  refine mix_start (fun w' => Below w1.heap.size w1 w') [0, 1, 2, 3, 4, 5, 7, 8, 9, 10, 11, 12, 6, 13, 14, 15] [6, 13] [1, 3, 5, 8, 10, 12] [] (by kernel_rfl) (by kernel_rfl) (fun d _ _ _ _ h => by cases d <;> exact h) (Below.refl _ _).drew ?_
  repeat (refine mix_pure rfl rfl (fun K hK => ?_); go_simp; refine hK _ ?_; clear hK K)
  refine mix_load_part rfl rfl rfl rfl 23 _ rfl w.heap.size 0 rfl 28 _ (0, 0) _ (encL .u8 key) (fun w' hS => hB.below hS hB.lt) (usedC_key key ctr nonce) Try.underlying23 rfl (by rw [encL_length, HK.out]; exact size23) ?_
  repeat (refine mix_pure rfl rfl (fun K hK => ?_); go_simp; refine hK _ ?_; clear hK K)
  refine mix_read (.int .u32 (wb ctr)) rfl rfl rfl rfl (fun w' hS => ?_) ?_
  · have hc' := below_cell hS hct
    go_simp
  repeat (refine mix_pure rfl rfl (fun K hK => ?_); go_simp; refine hK _ ?_; clear hK K)
  refine mix_load_part rfl rfl rfl rfl 26 _ rfl w.heap.size 33 rfl 28 _ (0, 0) _ (encL .u8 nonce) (fun w' hS => hB.below hS hB.lt) (usedC_nonce key ctr nonce HK.out) Try.underlying26 rfl (by rw [encL_length, HN.out]; exact size26) ?_
  repeat (refine mix_pure rfl rfl (fun K hK => ?_); go_simp; refine hK _ ?_; clear hK K)
  refine mix_load_part rfl rfl rfl rfl 23 _ rfl w.heap.size 0 rfl 28 _ (0, 0) _ (encL .u8 key) (fun w' hS => hB.below hS hB.lt) (usedC_key key ctr nonce) Try.underlying23 rfl (by rw [encL_length, HK.out]; exact size23) ?_
  repeat (refine mix_pure rfl rfl (fun K hK => ?_); go_simp; refine hK _ ?_; clear hK K)
  refine mix_read (.int .u32 (wb ctr)) rfl rfl rfl rfl (fun w' hS => ?_) ?_
  · have hc' := below_cell hS hct
    go_simp
  repeat (refine mix_pure rfl rfl (fun K hK => ?_); go_simp; refine hK _ ?_; clear hK K)
  refine mix_load_part rfl rfl rfl rfl 26 _ rfl w.heap.size 33 rfl 28 _ (0, 0) _ (encL .u8 nonce) (fun w' hS => hB.below hS hB.lt) (usedC_nonce key ctr nonce HK.out) Try.underlying26 rfl (by rw [encL_length, HN.out]; exact size26) ?_
  simp only [encL_toArray]
  refine mix_eff rfl rfl (fun K hK => ?_)
  go_simp
  refine (H11.out _).mono ?_
  rintro e w2 ⟨rfl, hb2⟩
  refine hK _ _ (fun _ h => h.trans (hb2.mono h.size)) ?_
  clear hK K
  replace hb := hb.drew.trans (hb2.mono hb.drew.size)
  clear hb2 hct hB
  refine mix_eff rfl rfl (fun K hK => ?_)
  go_simp
  refine (H12.out _).mono ?_
  rintro e w3 ⟨rfl, hb3⟩
  refine hK _ _ (fun _ h => h.trans (hb3.mono h.size)) ?_
  clear hK K
  replace hb := hb.trans (hb3.mono hb.size)
  clear hb3
  repeat (refine mix_pure rfl rfl (fun K hK => ?_); go_simp; refine hK _ ?_; clear hK K)
  refine mix_nil ?_
  go_wp2
  go_ret
  exact ⟨rfl, hb⟩
end Go.Proofs.Ytdpdpeifmignnaa
