/- The records of frame as cells and as bytes. -/
import Derived.Test.YtjnbgoiaocpcjaaBuild
import Derived.Test.YtjnbgoiaocpcjaaOctV
namespace Go.Proofs.Ytjnbgoiaocpcjaa
open Go.RowKit
theorem arg_of {w : World} {A : Option Addr} {cap n : Nat} {l : List (BitVec 8)} (hR : Rd w .u8 A l) (hn : l.length = n) (hc : n ≤ cap) : Arg w (.slice A n cap) l := ⟨A, cap, by rw [hn], by omega, hR⟩
/-- A header's cells, and its bytes. -/
def hdrL (k : List (BitVec 8)) (p n : BitVec 32) : List Value := encL .u8 k ++ [.int .u32 (wb p), .int .u32 (wb n)]
def hdrB (k : List (BitVec 8)) (p n : BitVec 32) : List (BitVec 8) := k ++ low (p.setWidth 64) 4 ++ low (n.setWidth 64) 4
def num32 (b : List (BitVec 8)) (o : Nat) : BitVec 32 := (get64 ((b.drop o).take 4)).setWidth 32
theorem hdrL_length (k : List (BitVec 8)) (p n : BitVec 32) (hk : k.length = 32) : (hdrL k p n).length = 34 := by simp [hdrL, encL_length, hk]
theorem hdrB_length (k : List (BitVec 8)) (p n : BitVec 32) (hk : k.length = 32) : (hdrB k p n).length = 40 := by simp [hdrB, low_length, hk]
theorem hdrL_one (k : List (BitVec 8)) (p n : BitVec 32) : (hdrL k p n).toArray.all (·.oneCell') = true := by
  rw [Array.all_eq_true_iff_forall_mem]
  intro v hv
  simp only [hdrL, List.mem_toArray, List.mem_append, List.mem_cons, List.not_mem_nil, or_false] at hv
  rcases hv with hv | rfl | rfl
  · exact encL_one _ _ v hv
  · rfl
  · rfl
theorem sizeHdr : (Try.prog.info? 29).map (·.size) = some 34 := by kernel_rfl
theorem kernelZeroHdr (w : World) : (zeroValue 29).run Try.prog w = .ok (.agg (hdrL (List.replicate 32 0) 0 0).toArray) w := by kernel_rfl
theorem build_hdr (k : List (BitVec 8)) (p n : BitVec 32) (hk : k.length = 32) (w : World) : (Instr.build 29 #[(0, .agg (encs .u8 k)), (1, .int .u32 (wb p)), (2, .int .u32 (wb n))]).run Try.prog w = .ok (.agg (hdrL k p n).toArray) w := by
  have h := run_build_all (P := Try.prog) 29 (Try.prog.fieldsOf 29) _ #[(0, 32), (32, 1), (33, 1)] (by kernel_rfl) kernelZeroHdr (fun w => by kernel_rfl) [.agg (encs .u8 k), .int .u32 (wb p), .int .u32 (wb n)] (by simp [tiles, Value.cells, encs_size, hk]) (by simp [hdrL, encL, catCells, Value.cells, encs, hk]) w
  have e : (catCells [.agg (encs .u8 k), .int .u32 (wb p), .int .u32 (wb n)]).toArray = (hdrL k p n).toArray := by simp [catCells, Value.cells, hdrL, encs_toList]
  rw [e] at h
  exact h
theorem build_hdr0 (w : World) : (Instr.build 29 #[]).run Try.prog w = .ok (.agg (hdrL (List.replicate 32 0) 0 0).toArray) w := by kernel_rfl
theorem rd_ok (b : List (BitVec 8)) (at_ n : Nat) (m : Int) (hm : m = (n : Int)) (h : at_ + n ≤ b.length) : rdGot b at_ 0 m = (b.drop at_).take n ∧ rdAt b.length at_ 0 m = at_ + n ∧ rdErr b.length at_ 0 m = 0 ∧ ((b.drop at_).take n).length = n := by
  subst hm
  have hok : rdOkB b.length at_ 0 (n : Int) = true := by simp [rdOkB]; omega
  refine ⟨by simp [rdGot, hok], by simp [rdAt, hok], ?_, by simp; omega⟩
  simp [rdOkB] at hok
  unfold rdErr
  rw [if_pos rfl, if_neg (by omega), if_neg (by omega)]
end Go.Proofs.Ytjnbgoiaocpcjaa
