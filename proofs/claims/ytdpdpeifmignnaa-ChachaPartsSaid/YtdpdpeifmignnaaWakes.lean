/- hollowtreelaw06.wakes: the layer does something. -/
import Derived.Test.YtdpdpeifmignnaaXor
import Derived.Test.YtdpdpeifmignnaaEqual
namespace Go.Proofs.Ytdpdpeifmignnaa
open Go.RowKit
theorem wakes_qr : wb (qr 286331153#32 16909060#32 2609737539#32 19088743#32).a = 3928658676 ∧ wb (qr 286331153#32 16909060#32 2609737539#32 19088743#32).b = 3407673550 ∧ wb (qr 286331153#32 16909060#32 2609737539#32 19088743#32).c = 1166100270 ∧ wb (qr 286331153#32 16909060#32 2609737539#32 19088743#32).d = 1484899515 := by decide +kernel
theorem wakes_block : wb ((chBlock (List.replicate 32 0#8) 0#32 (List.replicate 12 0#8)).getD 0 0) = 118 := by decide +kernel
set_option maxHeartbeats 2000000 in
theorem wakes_any (w : World) : Calls Try.prog 10 #[] w fun e w' => e = .returned (.bool true) ∧ Below w.heap.size w w' := by
  have hq := quarter_any 286331153#32 16909060#32 2609737539#32 19088743#32 w
  rw [wakes_qr.1, wakes_qr.2.1, wakes_qr.2.2.1, wakes_qr.2.2.2] at hq
  have hq' : Calls Try.prog 13 #[.int .u32 286331153, .int .u32 16909060, .int .u32 2609737539, .int .u32 19088743] w fun e w' => e = .returned (.tuple #[.int .u32 3928658676, .int .u32 3407673550, .int .u32 1166100270, .int .u32 1484899515]) ∧ w = w' := hq
  have HQ := Lib.hid hq'
  clear hq hq'
  go_enter Try.func10, Try.ntmps10
  go_wp2_with fail
  refine (HQ.out).mono ?_
  rintro e w' ⟨rfl, rfl⟩
  clear HQ
  go_wp2_with fail
  refine Calls.mono (show Calls Try.prog 11 #[.agg (encs .u8 (List.replicate 32 0#8)), .int .u32 (wb 0#32), .agg (encs .u8 (List.replicate 12 0#8))] w _ from block_any (List.replicate 32 0#8) (List.replicate 12 0#8) 0#32 rfl rfl w) ?_
  rintro e w2 ⟨rfl, hb⟩
  have H0 := wakes_block
  have HL := chBlock_length (List.replicate 32 0#8) 0#32 (List.replicate 12 0#8)
  generalize chBlock (List.replicate 32 0#8) 0#32 (List.replicate 12 0#8) = cb at *
  have HH0 := Lib.hid H0
  have HHL := Lib.hid HL
  clear H0 HL
  have hc : (w2.alloc (.cells (encs .u8 cb) 30)).cell? ⟨w2.heap.size, 0, none⟩ = some (.int .u8 118) := by
    rw [(Blk.new w2 (encs .u8 cb) 30).word 0 (by rw [HHL.out]; omega), HH0.out]
  go_wp2_with (first | (refine wpList_store_last rfl 30 _ _ rfl _ _ (encs .u8 cb) 30 rfl rfl (by simp; done) (by rw [encs_size, HHL.out]; exact size30) (by rw [encs_size, HHL.out]; rfl) (encs_one _ _) ?_) | fail)
  have hR : Rd ((w2.alloc (.cells (encs .u8 cb) 30)).alloc (.cells #[.int .u8 1] 5)) .u8 (some ⟨w2.heap.size + 1, 0, none⟩) [1#8] := (Blk.new_at (w2.alloc (.cells (encs .u8 cb) 30)) (encs .u8 [1#8]) 5 (w2.heap.size + 1) (by simp)).rd
  refine Calls.mono (show Calls Try.prog 17 #[.agg (encs .u8 (List.replicate 32 0#8)), .int .u32 (wb 0#32), .agg (encs .u8 (List.replicate 12 0#8)), .slice (some ⟨w2.heap.size + 1, 0, none⟩) [1#8].length 1] _ _ from xor_any (List.replicate 32 0#8) (List.replicate 12 0#8) [1#8] 0#32 _ 1 rfl rfl (by decide) _ hR) ?_
  rintro e w3 ⟨g, rfl, hB, hg, hb3⟩
  simp only [chXor_length, List.length_cons, List.length_nil, Nat.zero_add]
  have hbb : Below w.heap.size w w3 := (((hb.alloc hb.size _).alloc (by have := hb.size; simp; omega) _)).trans (hb3.mono (by have := hb.size; simp; omega))
  clear hR hB hg hb3 hc
  go_wp2_with fail
  go_ret
  exact ⟨rfl, hbb⟩
end Go.Proofs.Ytdpdpeifmignnaa
