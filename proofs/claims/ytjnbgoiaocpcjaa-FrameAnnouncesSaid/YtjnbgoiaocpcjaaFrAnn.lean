/- frame.GetAnnounce. -/
import Derived.Test.YtjnbgoiaocpcjaaFrAnnP
namespace Go.Proofs.Ytjnbgoiaocpcjaa
open Go.RowKit
set_option linter.unusedVariables false
set_option linter.unusedSimpArgs false
attribute [local go_sem] conv8_int_g min_imin
def annM (b : List (BitVec 8)) : Nat := min (b.getD 9 0).toNat 4
def okA (b : List (BitVec 8)) : Bool := (b.getD 0 0 == 1) && rightA (get64 (b.drop 1)) (annM b) && (b.drop (10 + 32 * annM b)).all (· == 0)
def AnnP (R : BitVec 64) (n : Nat) (l : List (BitVec 8)) (E : Int) (w : World) (e : Ending) (w' : World) : Prop :=
  ∃ v, e = .returned (.tuple #[.agg #[.int .u64 (wb R), v], .int .i64 E]) ∧ OwnK w' w.heap.size v n l ∧ Below w.heap.size w w'
def annE (b : List (BitVec 8)) : Int := if b.length = 106 then (if okA b then 0 else 241) else 240
def annOk (b : List (BitVec 8)) : Bool := decide (b.length = 106) && okA b
def annR (b : List (BitVec 8)) : BitVec 64 := if annOk b then get64 (b.drop 1) else 0
def annN (b : List (BitVec 8)) : Nat := if annOk b then annM b else 0
def annL (b : List (BitVec 8)) : List (BitVec 8) := if annOk b then (b.drop 10).take (32 * annM b) else []
def keyAll (b : List (BitVec 8)) : List (BitVec 8) := b.drop 10 ++ z32k
def keyK (b : List (BitVec 8)) (k : Nat) : List (BitVec 8) := ((keyAll b).drop (32 * k)).take 32
def keysK (b : List (BitVec 8)) (k : Nat) : List (BitVec 8) := (keyAll b).take (32 * k)
def errK (k : Nat) : Int := if k ≤ 3 then 0 else 110
theorem keyAll_length (b : List (BitVec 8)) (h : b.length = 106) : (keyAll b).length = 128 := by simp [keyAll, z32k, h]
theorem keyK_length (b : List (BitVec 8)) (h : b.length = 106) (k : Nat) (hk : k ≤ 3) : (keyK b k).length = 32 := by
  unfold keyK
  rw [List.length_take, List.length_drop, keyAll_length b h]; omega
theorem keysK_succ (b : List (BitVec 8)) (k : Nat) : keysK b k ++ keyK b k = keysK b (k + 1) := by
  unfold keysK keyK
  rw [show 32 * (k + 1) = 32 * k + 32 by omega, List.take_add]
theorem keysK_ok (b : List (BitVec 8)) (h : b.length = 106) (k : Nat) (hk : k ≤ 3) : keysK b k = (b.drop 10).take (32 * k) := by
  unfold keysK keyAll
  rw [List.take_append_of_le_length (by rw [List.length_drop]; omega)]
theorem key_step (b : List (BitVec 8)) (h : b.length = 106) (k : Nat) (hk : k ≤ 3) :
    keyOf (rdGot (b.drop 1) (9 + 32 * k) 0 32) = keyK b k ∧ rdAt (b.drop 1).length (9 + 32 * k) 0 32 = 9 + 32 * min (k + 1) 3 ∧ rdErr (b.drop 1).length (9 + 32 * k) 0 32 = errK (k + 1) := by
  have hl : (b.drop 1).length = 105 := by rw [List.length_drop]; omega
  by_cases h3 : k < 3
  · obtain ⟨a1, a2, a3, a4⟩ := rd_ok (b.drop 1) (9 + 32 * k) 32 32 rfl (by omega)
    refine ⟨?_, by rw [a2]; omega, by rw [a3]; unfold errK; rw [if_pos (by omega)]⟩
    rw [a1, keyOf_all _ a4, List.drop_drop]
    unfold keyK keyAll
    rw [List.drop_append_of_le_length (by rw [List.length_drop]; omega), List.take_append_of_le_length (by rw [List.length_drop, List.length_drop]; omega), List.drop_drop]
    congr 2
    omega
  · obtain rfl : k = 3 := by omega
    have hno : rdOkB (b.drop 1).length (9 + 32 * 3) 0 32 = false := by rw [hl]; rfl
    refine ⟨?_, by unfold rdAt; rw [hno]; rfl, by unfold rdErr; rw [hl]; rfl⟩
    unfold rdGot
    rw [hno]
    show keyOf [] = _
    rw [keyOf_nil]
    unfold keyK keyAll
    rw [List.drop_append_of_le_length (by rw [List.length_drop]; omega), List.drop_of_length_le (by rw [List.length_drop]; omega)]
    rfl
theorem build_ann (r : BitVec 64) (w : World) : (Instr.build 78 #[(0, .int .u64 (wb r))]).run Try.prog w = .ok (.agg #[.int .u64 (wb r), .slice none 0 0]) w := by kernel_rfl
end Go.Proofs.Ytjnbgoiaocpcjaa
