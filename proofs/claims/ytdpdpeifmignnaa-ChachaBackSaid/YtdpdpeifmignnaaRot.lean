/- A quarter can be gone back, and what was gone back is gone on to again: plain bit vectors. -/
import Derived.Test.YtdpdpeifmignnaaChaPure
namespace Go.Proofs.Ytdpdpeifmignnaa
theorem unrot (x : BitVec 32) (n : Nat) (hn : n < 32) : (rl x n) >>> n ||| (rl x n) <<< (32 - n) = x := by
  apply BitVec.eq_of_getLsbD_eq
  intro i hi
  simp only [rl, BitVec.getLsbD_or, BitVec.getLsbD_ushiftRight, BitVec.getLsbD_shiftLeft]
  by_cases h : i < 32 - n
  · have e1 : decide (n + i < 32) = true := by simp; omega
    have e2 : decide (n + i < n) = false := by simp
    have e3 : n + i - n = i := by omega
    have e4 : x.getLsbD (32 - n + (n + i)) = false := BitVec.getLsbD_of_ge _ _ (by omega)
    have e5 : decide (i < 32 - n) = true := by simpa using h
    rw [e1, e2, e3, e4, e5]
    simp
  · have e1 : decide (n + i < 32) = false := by simp; omega
    have e2 : x.getLsbD (32 - n + (n + i)) = false := BitVec.getLsbD_of_ge _ _ (by omega)
    have e3 : decide (i < 32) = true := by simpa using hi
    have e4 : decide (i < 32 - n) = false := by simpa using h
    have e5 : decide (i - (32 - n) < n) = true := by simp; omega
    have e6 : 32 - n + (i - (32 - n)) = i := by omega
    rw [e1, e2, e3, e4, e5, e6]
    simp
theorem rot_un (x : BitVec 32) (n : Nat) (hn : n < 32) (h0 : 0 < n) : rl (x >>> n ||| x <<< (32 - n)) n = x := by
  have h := unrot x (32 - n) (by omega)
  unfold rl at h ⊢
  rw [show 32 - (32 - n) = n by omega] at h
  rw [BitVec.or_comm] at h
  rw [show (x >>> n ||| x <<< (32 - n)) = (x <<< (32 - n) ||| x >>> n) from BitVec.or_comm _ _]
  exact h
theorem xor_back (x y : BitVec 32) : (x ^^^ y) ^^^ y = x := by rw [BitVec.xor_assoc, BitVec.xor_self, BitVec.xor_zero]
theorem unqr_qr (a b c d : BitVec 32) : unqr (qr a b c d).a (qr a b c d).b (qr a b c d).c (qr a b c d).d = ⟨a, b, c, d⟩ := by
  simp only [qr, unqr]
  have r7 := fun x => unrot x 7 (by omega)
  have r8 := fun x => unrot x 8 (by omega)
  have r12 := fun x => unrot x 12 (by omega)
  have r16 := fun x => unrot x 16 (by omega)
  simp only [Nat.reduceSub] at r7 r8 r12 r16
  simp only [r7, r8, r12, r16, xor_back, BitVec.add_sub_cancel]
theorem qr_unqr (a b c d : BitVec 32) : qr (unqr a b c d).a (unqr a b c d).b (unqr a b c d).c (unqr a b c d).d = ⟨a, b, c, d⟩ := by
  simp only [qr, unqr]
  have r7 := fun x => rot_un x 7 (by omega) (by omega)
  have r8 := fun x => rot_un x 8 (by omega) (by omega)
  have r12 := fun x => rot_un x 12 (by omega) (by omega)
  have r16 := fun x => rot_un x 16 (by omega) (by omega)
  simp only [Nat.reduceSub] at r7 r8 r12 r16
  simp only [BitVec.sub_add_cancel, xor_back, r7, r8, r12, r16]
end Go.Proofs.Ytdpdpeifmignnaa
