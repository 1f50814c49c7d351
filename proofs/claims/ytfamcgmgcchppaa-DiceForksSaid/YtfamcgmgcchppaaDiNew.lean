/- dice: New, Bytes, Taken, Below at one; dice that are not there. -/
import Derived.Test.YtfamcgmgcchppaaDiNext
import Derived.Test.YtfamcgmgcchppaaShaSumB
namespace Go.Proofs.Ytfamcgmgcchppaa
open Go.RowKit
set_option linter.unusedVariables false
set_option linter.unusedSimpArgs false
def z32d : List (BitVec 8) := List.replicate 32 0
theorem kernelZeroStream (w : World) : (zeroValue 65).run Try.prog w = .ok (.agg (diceL z32d 0).toArray) w := by kernel_rfl
theorem kernelZeroDice (w : World) : (zeroValue 67).run Try.prog w = .ok (.agg (diceL z32d 0).toArray) w := by kernel_rfl
theorem diceL_length (k : List (BitVec 8)) (t : Nat) (hk : k.length = 32) : (diceL k t).length = 33 := by simp [diceL, encL_length, hk]
theorem build_stream (k : List (BitVec 8)) (hk : k.length = 32) (w : World) : (Instr.build 65 #[(0, .agg (encs .u8 k))]).run Try.prog w = .ok (.agg (diceL k 0).toArray) w := by
  have h := run_build_first (P := Try.prog) 65 (Try.prog.fieldsOf 65) _ #[(0, 32), (32, 1)] (by kernel_rfl) kernelZeroStream (fun w => by kernel_rfl) [.agg (encs .u8 k)] (by simp [tiles, Value.cells, encs_size, hk]) (by simp [catCells, Value.cells, encs_size, hk, diceL_length z32d 0 rfl]) w
  have e5 : (catCells [.agg (encs .u8 k)]).length = 32 := by simp [catCells, Value.cells, encs_size, hk]
  have e3 : (diceL z32d 0).drop 32 = [Value.int .i64 ((0 : Nat) : Int)] := rfl
  rw [e5, show Value.cells (.agg (diceL z32d 0).toArray) = (diceL z32d 0).toArray from rfl, List.toList_toArray, e3] at h
  have e : (catCells [.agg (encs .u8 k)] ++ [Value.int .i64 ((0 : Nat) : Int)]).toArray = (diceL k 0).toArray := by simp [catCells, Value.cells, diceL, encs_toList]
  rw [e] at h
  exact h
theorem build_dice (k : List (BitVec 8)) (hk : k.length = 32) (w : World) : (Instr.build 67 #[(0, .agg (diceL k 0).toArray)]).run Try.prog w = .ok (.agg (diceL k 0).toArray) w := by
  have h := run_build_all (P := Try.prog) 67 (Try.prog.fieldsOf 67) _ #[(0, 33)] (by kernel_rfl) kernelZeroDice (fun w => by kernel_rfl) [.agg (diceL k 0).toArray] (by simp [tiles, Value.cells, diceL_length k 0 hk]) (by simp [catCells, Value.cells, diceL_length k 0 hk, diceL_length z32d 0 rfl]) w
  have e : (catCells [.agg (diceL k 0).toArray]).toArray = (diceL k 0).toArray := by simp [catCells, Value.cells]
  rw [e] at h
  exact h
def NewD (w : World) (b : List (BitVec 8)) (e : Ending) (w' : World) : Prop := ∃ g, e = .returned (.pointer (some ⟨g, 0, none⟩)) ∧ w.heap.size ≤ g ∧ DiceR w' g (sha b) 0 ∧ Below w.heap.size w w'
set_option maxRecDepth 100000 in
set_option maxHeartbeats 4000000 in
theorem dnew_any (b : List (BitVec 8)) (A : Option Addr) (cap : Nat) (w : World) (hR : Rd w .u8 A b) (hc : b.length ≤ cap) (hlen : b.length ≤ 281474976710656) :
    Calls Try.prog 10 #[.slice A b.length cap] w (NewD w b) := by
  have HR := Lib.hid hR
  have HC := Lib.hid hc
  have HLE := Lib.hid hlen
  clear hR hc hlen
  have hs := Lib.hid (build_stream (sha b) (sha_length b))
  have hd := Lib.hid (build_dice (sha b) (sha_length b))
  go_enter Try.func10, Try.ntmps10
  go_wp2_with fail
  refine (shasum_any b A cap w HR.out HC.out HLE.out).mono ?_
  rintro e w1 ⟨rfl, hb⟩
  go_wp2_with (first | (refine wpList_build rfl 65 _ rfl (.agg (diceL (sha b) 0).toArray) _ hs.out (by simp [Act.eval]) ?_) | (refine wpList_build rfl 67 _ rfl (.agg (diceL (sha b) 0).toArray) _ hd.out (by simp [Act.eval, Act.put]) ?_) | fail)
  go_ret
  exact ⟨_, rfl, hb.size, ⟨sha_length b, Blk.new _ _ _⟩, hb.trans (((Below.refl _ _).alloc (Nat.le_refl _) _).mono hb.size)⟩
def BytesD (w : World) (g : Nat) (key : List (BitVec 8)) (t n : Nat) (e : Ending) (w' : World) : Prop := ∃ v, e = .returned (.tuple #[v, .int .i64 0]) ∧ OwnB w' w.heap.size v (strm key t n) ∧ DiceR w' g key (t + n) ∧ Upd g w w'
set_option maxRecDepth 100000 in
set_option maxHeartbeats 4000000 in
theorem dbytes_any (g : Nat) (key : List (BitVec 8)) (t n : Nat) (w : World) (h : DiceR w g key t) (hn : n ≤ 65536) (ht : t ≤ 1099511627776) :
    Calls Try.prog 13 #[.pointer (some ⟨g, 0, none⟩), .int .i64 n] w (BytesD w g key t n) := by
  have h1 : ¬ (n : Int) < 0 := by omega
  have h2 : ¬ (65536 : Int) < (n : Int) := by omega
  go_enter Try.func13, Try.ntmps13
  go_wp2_with fail
  refine (next_any g key t n w h (by omega) ht).mono ?_
  rintro e w1 ⟨v, rfl, r⟩
  go_wp2_with fail
  refine bodyPost_ret (results_tmp2 rfl _ _ _) rfl ?_
  exact ⟨_, rfl, r⟩
theorem dbytes_nil (x : Value) (w : World) : Calls Try.prog 13 #[.pointer none, x] w fun e w' => e = .returned (.tuple #[.slice none 0 0, .int .i64 1]) ∧ w' = w := by
  go_enter Try.func13, Try.ntmps13
  go_wp2_with fail
  refine bodyPost_ret (results_tmp2 rfl _ _ _) rfl ?_
  exact ⟨rfl, rfl⟩
theorem dbelow_nil (x : Value) (w : World) : Calls Try.prog 12 #[.pointer none, x] w fun e w' => e = .returned (.tuple #[.int .i64 0, .int .i64 1]) ∧ w' = w := by
  go_enter Try.func12, Try.ntmps12
  go_wp2_with fail
  refine bodyPost_ret (results_tmp2 rfl _ _ _) rfl ?_
  exact ⟨rfl, rfl⟩
theorem dorder_nil (x : Value) (w : World) : Calls Try.prog 11 #[.pointer none, x] w fun e w' => e = .returned (.tuple #[.slice none 0 0, .int .i64 1]) ∧ w' = w := by
  go_enter Try.func11, Try.ntmps11
  go_wp2_with fail
  refine bodyPost_ret (results_tmp2 rfl _ _ _) rfl ?_
  exact ⟨rfl, rfl⟩
theorem dfork_nil (x : Value) (w : World) : Calls Try.prog 23 #[.pointer none, x] w fun e w' => e = .returned (.tuple #[.pointer none, .int .i64 1]) ∧ w' = w := by
  go_enter Try.func23, Try.ntmps23
  go_wp2_with fail
  refine bodyPost_ret (results_tmp2 rfl _ _ _) rfl ?_
  exact ⟨rfl, rfl⟩
theorem dtaken_nil (w : World) : Calls Try.prog 15 #[.pointer none] w fun e w' => e = .returned (.int .i64 0) ∧ w' = w := by
  go_enter Try.func15, Try.ntmps15
  go_wp2_with fail
  go_ret
  exact ⟨rfl, rfl⟩
theorem dtaken_any (g : Nat) (key : List (BitVec 8)) (t : Nat) (w : World) (h : DiceR w g key t) : Calls Try.prog 15 #[.pointer (some ⟨g, 0, none⟩)] w fun e w' => e = .returned (.int .i64 t) ∧ w' = w := by
  have hc := h.cell
  go_enter Try.func15, Try.ntmps15
  go_wp2_with fail
  go_ret
  exact ⟨rfl, rfl⟩
end Go.Proofs.Ytfamcgmgcchppaa
