/- The reference's Low, High, Both, Same. -/
import Derived.Test.YtjnbgoiaocpcjaaOctXor
namespace Go.Proofs.Ytjnbgoiaocpcjaa
open Go.RowKit
theorem wb_neq8 (x y : BitVec 8) : (wb x != wb y) = (x != y) := by
  rw [Bool.eq_iff_iff]
  simp only [bne_iff_ne, ne_eq]
  rw [@wb_inj 8 x y]
theorem conv64_8b (x : BitVec 64) : IntKind.u8.wrap (wb x) = wb (x.setWidth 8) := conv_u8 x
theorem mod256 (x : BitVec 64) : IntKind.u8.wrap (wb x % 256) = wb (x.setWidth 8) := by
  rw [← conv_u8 x, wrap_isU isU8, wrap_isU isU8]
  show (wb x % 256) % 256 = wb x % 256
  omega
theorem div256 (x : BitVec 64) : wb x / (256 : Int) = wb (x >>> 8) := wb_shr x 8
theorem mul256 (x : BitVec 64) : IntKind.u64.wrap (wb x * 256) = wb (x <<< 8) := shl_u64 x 8
theorem low_getD (x : BitVec 64) (n k : Nat) (h : k < n) : (low x n).getD k 0 = (x >>> (8 * k)).setWidth 8 := by
  induction n with
  | zero => omega
  | succ n ih =>
    rw [low_succ, List.getD_eq_getElem?_getD]
    by_cases hk : k < n
    · rw [List.getElem?_append_left (by rw [low_length]; exact hk), ← List.getD_eq_getElem?_getD, ih hk]
    · obtain rfl : k = n := by omega
      rw [List.getElem?_append_right (by rw [low_length]; exact Nat.le_refl _), low_length]
      simp
attribute [local go_sem] wb_neq8
theorem quo256 (x : BitVec 64) : IntKind.u64.wrap ((wb x).tdiv 256) = wb (x >>> 8) := by
  rw [Int.tdiv_eq_ediv_of_nonneg (wb_nonneg x)]
  have h : wb x / (256 : Int) = wb (x >>> 8) := wb_shr x 8
  rw [h, conv_u64, BitVec.setWidth_eq]
theorem rem256 (x : BitVec 64) : (wb x).tmod 256 % 256 = wb (x.setWidth 8) := by
  rw [Int.tmod_eq_emod_of_nonneg (wb_nonneg x), ← mod256 x, wrap_isU isU8]
  rfl
attribute [local go_sem] quo256 rem256
theorem conv8_64b (x : BitVec 8) : IntKind.u64.wrap (wb x) = wb (x.setWidth 64) := conv_u64 x
attribute [local go_sem] mul256 conv8_64b add_u64
theorem add_or8 (y : BitVec 64) (c : BitVec 8) : y <<< 8 + c.setWidth 64 = c.setWidth 64 ||| y <<< 8 := by
  rw [BitVec.or_comm]
  apply BitVec.add_eq_or_of_and_eq_zero
  apply BitVec.eq_of_getLsbD_eq
  intro i hi
  simp only [BitVec.getLsbD_and, BitVec.getLsbD_shiftLeft, BitVec.getLsbD_setWidth, BitVec.getLsbD_zero]
  by_cases h8 : i < 8
  · simp [h8]
  · simp [h8, BitVec.getLsbD_of_ge c i (by omega)]
/-- The number that High has when it is at place k. -/
def high (l : List (BitVec 8)) (k : Nat) : BitVec 64 := num ((l.take 8).drop k)
theorem num_drop (l : List (BitVec 8)) (k : Nat) (h : k < l.length) : num (l.drop k) = (num (l.drop (k + 1))) <<< 8 + (l.getD k 0).setWidth 64 := by
  rw [add_or8, List.drop_eq_getElem_cons h, num]
  simp [List.getD, h]
theorem high_lt (l : List (BitVec 8)) (k : Nat) (h : k < l.length) (h8 : k < 8) : high l k = (high l (k + 1)) <<< 8 + (l.getD k 0).setWidth 64 := by
  unfold high
  rw [num_drop (l.take 8) k (by rw [List.length_take]; omega)]
  simp [List.getD, h8]
theorem high_ge (l : List (BitVec 8)) (k : Nat) (h : l.length ≤ k) : high l k = 0 := by
  unfold high
  rw [List.drop_of_length_le (by rw [List.length_take]; omega)]
  rfl
end Go.Proofs.Ytjnbgoiaocpcjaa
