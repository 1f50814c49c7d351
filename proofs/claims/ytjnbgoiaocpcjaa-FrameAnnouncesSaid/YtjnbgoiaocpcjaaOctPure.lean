/- Numbers as bytes, the lowest first: plain Lean. -/
import Derived.Test.YtjnbgoiaocpcjaaBits
namespace Go.Proofs.Ytjnbgoiaocpcjaa
open Go.RowKit

/-- A number's lowest bytes. -/
def low (x : BitVec 64) : Nat → List (BitVec 8)
  | 0 => []
  | n + 1 => low x n ++ [(x >>> (8 * n)).setWidth 8]
theorem low_length (x : BitVec 64) (n : Nat) : (low x n).length = n := by induction n <;> simp [low, *]
theorem low_zero (x : BitVec 64) : low x 0 = [] := rfl
theorem low_succ (x : BitVec 64) (n : Nat) : low x (n + 1) = low x n ++ [(x >>> (8 * n)).setWidth 8] := rfl
/-- The number that bytes make, the lowest first. -/
def num : List (BitVec 8) → BitVec 64
  | [] => 0
  | c :: l => c.setWidth 64 ||| num l <<< 8
theorem num_snoc (l : List (BitVec 8)) (c : BitVec 8) : num (l ++ [c]) = num l ||| c.setWidth 64 <<< (8 * l.length) := by
  induction l with
  | nil => simp [num]
  | cons d l ih =>
    simp only [List.cons_append, num, ih, List.length_cons]
    rw [BitVec.shiftLeft_or_distrib, ← BitVec.or_assoc]
    congr 1
    rw [← BitVec.shiftLeft_add, show 8 * (l.length + 1) = 8 * l.length + 8 by omega]
/-- The number that bytes begin with. -/
def get64 (l : List (BitVec 8)) : BitVec 64 := num (l.take 8)
theorem shr_add (x : BitVec 64) (a b : Nat) : (x >>> a) >>> b = x >>> (a + b) := (BitVec.shiftRight_add x a b).symm
end Go.Proofs.Ytjnbgoiaocpcjaa
