/- octet.Xor, and the reference's Low, High, Both, Same. -/
import Derived.Test.YtjnbgoiaocpcjaaOctGet
namespace Go.Proofs.Ytjnbgoiaocpcjaa
open Go.RowKit
/-- A row that is being filled. -/
def fill {n : Nat} (l : List (BitVec n)) (k : Nat) : List (BitVec n) := l.take k ++ List.replicate (l.length - k) 0
theorem fill_zero {n : Nat} (l : List (BitVec n)) : fill l 0 = List.replicate l.length 0 := by simp [fill]
theorem fill_all {n : Nat} (l : List (BitVec n)) : fill l l.length = l := by simp [fill]
theorem fill_length {n : Nat} (l : List (BitVec n)) (k : Nat) (h : k ≤ l.length) : (fill l k).length = l.length := by simp [fill]; omega
theorem fill_set {n : Nat} (l : List (BitVec n)) (k : Nat) (h : k < l.length) : (fill l k).set k (l.getD k 0) = fill l (k + 1) := by
  unfold fill
  have e : l.length - k = l.length - (k + 1) + 1 := by omega
  rw [e, List.replicate_succ, List.set_append_right _ _ (by rw [List.length_take]; omega), List.length_take, Nat.min_eq_left (by omega), Nat.sub_self, List.set_cons_zero, take_snoc l 0 k h, List.append_assoc]
  rfl
/-- Bytes xored. -/
def xorB (l m : List (BitVec 8)) : List (BitVec 8) := List.zipWith (· ^^^ ·) l m
theorem xorB_length (l m : List (BitVec 8)) : (xorB l m).length = min l.length m.length := by simp [xorB]
theorem xorB_get (l m : List (BitVec 8)) (k : Nat) (h : k < l.length) (h' : k < m.length) : (xorB l m).getD k 0 = l.getD k 0 ^^^ m.getD k 0 := by
  simp [xorB, List.getD, h, h', List.getElem?_zipWith]
/-- What is owned for sure: a block of its own as long as its words. -/
theorem blk_owns {w : World} {g m base : Nat} {e : TypeId} {k : IntKind} {n : Nat} {l : List (BitVec n)} (h : Blk w g (encs k l) e) (hb : base ≤ g) (hl : l.length = m) (hm : m ≤ maxLen) : w.ownsRow base e 1 (.slice (some ⟨g, 0, none⟩) m m) m (encL k l) :=
  ⟨by rw [encL_length, hl, Nat.mul_one], .inr ⟨g, m, _, rfl, hb, h, Nat.le_refl _, hm, by rw [encs_size, hl, Nat.mul_one], by rw [encs_toList, List.take_of_length_le (by rw [encL_length, hl]; omega)]⟩⟩
attribute [local go_sem] bits_xor_u8 min_imin
end Go.Proofs.Ytjnbgoiaocpcjaa
