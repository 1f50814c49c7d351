/- The reference's dice: New. -/
import Derived.Test.YtfamcgmgcchppaaDiOne
import Derived.Test.YtfamcgmgcchppaaShaRef
namespace Go.Proofs.Ytfamcgmgcchppaa
open Go.RowKit
set_option linter.unusedVariables false
set_option linter.unusedSimpArgs false
theorem kernelZeroRDice (w : World) : (zeroValue 43).run Try.prog w = .ok (.agg (diceL z32d 0).toArray) w := by kernel_rfl
theorem sizeRDice : (Try.prog.info? 43).map (·.size) = some 33 := by kernel_rfl
theorem build_rdice (k : List (BitVec 8)) (hk : k.length = 32) (w : World) : (Instr.build 43 #[(0, .agg (encs .u8 k))]).run Try.prog w = .ok (.agg (diceL k 0).toArray) w := by
  have h := run_build_first (P := Try.prog) 43 (Try.prog.fieldsOf 43) _ #[(0, 32), (32, 1)] (by kernel_rfl) kernelZeroRDice (fun w => by kernel_rfl) [.agg (encs .u8 k)] (by simp [tiles, Value.cells, encs_size, hk]) (by simp [catCells, Value.cells, encs_size, hk, diceL_length z32d 0 rfl]) w
  have e5 : (catCells [.agg (encs .u8 k)]).length = 32 := by simp [catCells, Value.cells, encs_size, hk]
  have e3 : (diceL z32d 0).drop 32 = [Value.int .i64 ((0 : Nat) : Int)] := rfl
  rw [e5, show Value.cells (.agg (diceL z32d 0).toArray) = (diceL z32d 0).toArray from rfl, List.toList_toArray, e3] at h
  have e : (catCells [.agg (encs .u8 k)] ++ [Value.int .i64 ((0 : Nat) : Int)]).toArray = (diceL k 0).toArray := by simp [catCells, Value.cells, diceL, encs_toList]
  rw [e] at h
  exact h
theorem diceL_one (k : List (BitVec 8)) (t : Nat) : (diceL k t).toArray.all (·.oneCell') = true := by
  rw [Array.all_eq_true_iff_forall_mem]
  intro v hv
  simp only [diceL, List.mem_toArray, List.mem_append, List.mem_cons, List.not_mem_nil, or_false] at hv
  rcases hv with hv | rfl
  · exact encL_one _ _ v hv
  · rfl
set_option maxRecDepth 100000 in
set_option maxHeartbeats 4000000 in
theorem rdnew_any (b : List (BitVec 8)) (A : Option Addr) (cap : Nat) (w : World) (hR : Rd w .u8 A b) (hc : b.length ≤ cap) (hlen : b.length ≤ 140737488500000) :
    Calls Try.prog 16 #[.slice A b.length cap] w fun e w' => e = .returned (.agg (diceL (sha b) 0).toArray) ∧ Below w.heap.size w w' := by
  have HR := Lib.hid hR
  have HC := Lib.hid hc
  have HLE := Lib.hid hlen
  clear hR hc hlen
  have HBU := Lib.hid (build_rdice (sha b) (sha_length b))
  have HDL := Lib.hid (diceL_length (sha b) 0 (sha_length b))
  have HD0 := Lib.hid (diceL_length z32d 0 rfl)
  have HONE := Lib.hid (diceL_one (sha b) 0)
  have hb0 : Below w.heap.size w (w.alloc (.cells (diceL z32d 0).toArray 43)) := (Below.refl _ _).alloc (Nat.le_refl _) _
  have hB : Blk (w.alloc (.cells (diceL z32d 0).toArray 43)) w.heap.size (diceL z32d 0).toArray 43 := Blk.new _ _ _
  have hz := kernelZeroRDice
  go_enter Try.func16, Try.ntmps16
  go_wp2_with fail
  refine (rsum_any b A cap _ (HR.out.below hb0) HC.out HLE.out).mono ?_
  rintro e w1 ⟨rfl, hn⟩
  replace hB := hB.below hn hB.lt
  replace hb0 := hb0.trans (hn.mono hb0.size)
  clear hn hz
  go_wp2_with (first | (refine wpList_build rfl 43 _ rfl (.agg (diceL (sha b) 0).toArray) _ HBU.out (by simp [Act.eval]) ?_) | (refine wpList_store_row rfl 43 _ _ rfl _ _ rfl rfl 43 _ hB (by rw [List.size_toArray, HDL.out]; exact sizeRDice) (by rw [List.size_toArray, List.size_toArray, HDL.out, HD0.out]) HONE.out ?_) | fail)
  refine bodyPost_ret (v := .agg (diceL (sha b) 0).toArray) (results_cell_row rfl _ _ _ _ _ _ _ rfl (hB.row _) Try.underlying43 rfl (by rw [List.size_toArray, HDL.out]; exact sizeRDice)) rfl ⟨rfl, below_setRow hb0 (Nat.le_refl _) _⟩
end Go.Proofs.Ytfamcgmgcchppaa
