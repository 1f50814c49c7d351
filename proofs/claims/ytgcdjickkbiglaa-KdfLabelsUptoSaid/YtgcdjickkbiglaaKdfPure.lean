/- kdf in plain Lean: the code of a key and a text. -/
import Derived.Test.YtgcdjickkbiglaaShaPure
namespace Go.Proofs.Ytgcdjickkbiglaa
open Go.RowKit
def hmKey (k : List (BitVec 8)) : List (BitVec 8) := if 64 < k.length then sha k else k
def hmPad (k : List (BitVec 8)) : List (BitVec 8) := hmKey k ++ List.replicate (64 - (hmKey k).length) 0
def hmX (k : List (BitVec 8)) (x : BitVec 8) : List (BitVec 8) := (hmPad k).map (· ^^^ x)
def hmac (k m : List (BitVec 8)) : List (BitVec 8) := sha (hmX k 0x5c ++ sha (hmX k 0x36 ++ m))
theorem hmKey_length (k : List (BitVec 8)) : (hmKey k).length ≤ 64 := by
  unfold hmKey
  split
  · rw [sha_length]; omega
  · omega
theorem hmPad_length (k : List (BitVec 8)) : (hmPad k).length = 64 := by
  have := hmKey_length k
  unfold hmPad
  rw [List.length_append, List.length_replicate]
  omega
theorem hmX_length (k : List (BitVec 8)) (x : BitVec 8) : (hmX k x).length = 64 := by
  unfold hmX
  rw [List.length_map, hmPad_length]
theorem hmac_length (k m : List (BitVec 8)) : (hmac k m).length = 32 := sha_length _
/-- How long the parts of a key's spreading are: blocks of hmac, one behind the other. -/
def exLast (k info : List (BitVec 8)) : Nat → List (BitVec 8)
  | 0 => []
  | i + 1 => hmac k (exLast k info i ++ info ++ [BitVec.ofNat 8 (i + 1)])
def exOut (k info : List (BitVec 8)) : Nat → List (BitVec 8)
  | 0 => []
  | i + 1 => exOut k info i ++ exLast k info (i + 1)
theorem exLast_length (k info : List (BitVec 8)) (i : Nat) : (exLast k info (i + 1)).length = 32 := hmac_length _ _
theorem exOut_length (k info : List (BitVec 8)) (i : Nat) : (exOut k info i).length = 32 * i := by
  induction i with
  | zero => rfl
  | succ i ih =>
    show (exOut k info i ++ exLast k info (i + 1)).length = _
    rw [List.length_append, ih, exLast_length]
    omega
/-- A longer row begins as the shorter does. -/
theorem exOut_take (k info : List (BitVec 8)) (i j : Nat) (h : i ≤ j) : (exOut k info j).take (32 * i) = exOut k info i := by
  induction j with
  | zero =>
    obtain rfl : i = 0 := by omega
    rfl
  | succ j ih =>
    by_cases hij : i = j + 1
    · subst hij
      rw [← exOut_length k info (j + 1), List.take_length]
    · show (exOut k info j ++ exLast k info (j + 1)).take (32 * i) = _
      rw [List.take_append_of_le_length (by rw [exOut_length]; omega)]
      exact ih (by omega)
def expand (k info : List (BitVec 8)) (n : Nat) : List (BitVec 8) := (exOut k info ((n + 31) / 32)).take n
theorem expand_length (k info : List (BitVec 8)) (n : Nat) : (expand k info n).length = n := by
  unfold expand
  rw [List.length_take, exOut_length]
  omega
theorem expand_take (k info : List (BitVec 8)) (n m : Nat) (h : n ≤ m) : (expand k info m).take n = expand k info n := by
  unfold expand
  rw [List.take_take, Nat.min_eq_left h, ← exOut_take k info ((n + 31) / 32) ((m + 31) / 32) (by omega), List.take_take, Nat.min_eq_left (by omega)]
end Go.Proofs.Ytgcdjickkbiglaa
