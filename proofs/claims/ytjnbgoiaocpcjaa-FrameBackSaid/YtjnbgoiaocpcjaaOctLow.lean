/- Low forms read back: plain Lean. -/
import Derived.Test.YtjnbgoiaocpcjaaOctPure
namespace Go.Proofs.Ytjnbgoiaocpcjaa
theorem num_low (x : BitVec 64) (n : Nat) (h : n ≤ 8) : num (low x n) = x &&& BitVec.ofNat 64 (2 ^ (8 * n) - 1) := by
  induction n with
  | zero => simp [low, num]
  | succ n ih =>
    rw [low_succ, num_snoc, ih (by omega), low_length]
    apply BitVec.eq_of_getLsbD_eq
    intro i hi
    simp only [BitVec.getLsbD_or, BitVec.getLsbD_and, BitVec.getLsbD_shiftLeft, BitVec.getLsbD_setWidth, BitVec.getLsbD_ushiftRight, BitVec.getLsbD_ofNat, Nat.testBit_two_pow_sub_one, hi, decide_true, Bool.true_and]
    by_cases h1 : i < 8 * n
    · simp [h1]
      omega
    · have e : 8 * n + (i - 8 * n) = i := by omega
      rw [e]
      by_cases h2 : i < 8 * (n + 1)
      · have h3 : i - 8 * n < 8 := by omega
        have h4 : i - 8 * n < 64 := by omega
        simp [h1, h2, h3, h4]
      · have h3 : ¬ i - 8 * n < 8 := by omega
        simp [h1, h2, h3]
theorem get64_low8 (x : BitVec 64) : get64 (low x 8) = x := by
  unfold get64
  rw [List.take_of_length_le (by rw [low_length]; omega), num_low x 8 (by omega)]
  apply BitVec.eq_of_getLsbD_eq
  intro i hi
  simp only [BitVec.getLsbD_and, BitVec.getLsbD_ofNat, Nat.testBit_two_pow_sub_one, hi, decide_true, Bool.true_and]
  simp [hi]
theorem get64_piece (x : BitVec 64) (n : Nat) (h : n ≤ 8) : get64 (low x n) = x &&& BitVec.ofNat 64 (2 ^ (8 * n) - 1) := by
  unfold get64
  rw [List.take_of_length_le (by rw [low_length]; omega), num_low x n h]
theorem get64_low4 (x : BitVec 64) : (get64 (low x 4)).setWidth 32 = x.setWidth 32 := by
  rw [get64_piece x 4 (by omega)]
  apply BitVec.eq_of_getLsbD_eq
  intro i hi
  simp only [BitVec.getLsbD_setWidth, BitVec.getLsbD_and, BitVec.getLsbD_ofNat, Nat.testBit_two_pow_sub_one]
  simp [hi]
  omega
theorem get64_low2 (x : BitVec 64) : (get64 (low x 2)).setWidth 16 = x.setWidth 16 := by
  rw [get64_piece x 2 (by omega)]
  apply BitVec.eq_of_getLsbD_eq
  intro i hi
  simp only [BitVec.getLsbD_setWidth, BitVec.getLsbD_and, BitVec.getLsbD_ofNat, Nat.testBit_two_pow_sub_one]
  simp [hi]
  omega
end Go.Proofs.Ytjnbgoiaocpcjaa
