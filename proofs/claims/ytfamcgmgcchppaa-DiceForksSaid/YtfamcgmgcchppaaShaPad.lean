/- sha.Pad. -/
import Derived.Test.YtfamcgmgcchppaaShaSum
namespace Go.Proofs.Ytfamcgmgcchppaa
open Go.RowKit
set_option linter.unusedVariables false
set_option linter.unusedSimpArgs false
/-- The filling when k of its last bytes are there. -/
def padA (n k : Nat) : List (BitVec 8) := [(0x80 : BitVec 8)] ++ List.replicate (padZ n + (8 - k)) (0 : BitVec 8) ++ be64 (BitVec.ofNat 64 n <<< 3) k
theorem padA_length (n k : Nat) (h : k ≤ 8) : (padA n k).length = padZ n + 9 := by simp [padA, be64_length]; omega
theorem padA_all (n : Nat) : padA n 8 = shaPad n := rfl
theorem padA_zero (n : Nat) : (List.replicate (padZ n + 9) (0 : BitVec 8)).set 0 0x80 = padA n 0 := by
  rw [show padZ n + 9 = (padZ n + 8) + 1 from rfl, List.replicate_succ]
  simp [padA, be64]
theorem padA_succ (n k : Nat) (h : k < 8) : (padA n k).set (padZ n + 8 - k) ((BitVec.ofNat 64 n <<< 3 >>> (8 * k)).setWidth 8) = padA n (k + 1) := by
  have e : padA n k = ([(0x80 : BitVec 8)] ++ List.replicate (padZ n + (7 - k)) (0 : BitVec 8)) ++ ((0 : BitVec 8) :: be64 (BitVec.ofNat 64 n <<< 3) k) := by
    unfold padA
    rw [show padZ n + (8 - k) = (padZ n + (7 - k)) + 1 by omega, List.replicate_succ']
    simp
  have e1 : ([(0x80 : BitVec 8)] ++ List.replicate (padZ n + (7 - k)) (0 : BitVec 8)).length = padZ n + 8 - k := by simp; omega
  rw [e, List.set_append_right _ _ (by omega), e1, Nat.sub_self, List.set_cons_zero]
  unfold padA
  rw [show 8 - (k + 1) = 7 - k by omega]
  rfl
theorem blk_own0 {w : World} {g m base : Nat} {e : TypeId} {k : IntKind} {n : Nat} {l : List (BitVec n)} (h : Blk w g (encs k l) e) (hb : base ≤ g) (hl : l.length = m) (hm : m ≤ maxLen) : w.ownsRow base e 1 (.slice (some ⟨g, 0, none⟩) m m) m (encL k l) :=
  ⟨by rw [encL_length, hl, Nat.mul_one], .inr ⟨g, m, _, rfl, hb, h, Nat.le_refl _, hm, by rw [encs_size, hl, Nat.mul_one], by rw [encs_toList, List.take_of_length_le (by rw [encL_length, hl]; omega)]⟩⟩
theorem pad_neg (n : Int) (h : n < 0) (w : World) : Calls Try.prog 48 #[.int .i64 n] w fun e w' => e = .returned (.slice none 0 0) ∧ w = w' := by
  go_enter Try.func48, Try.ntmps48
  go_wp2_with fail
  go_ret
  exact ⟨rfl, rfl⟩
theorem shl3_64 (x : BitVec 64) : IntKind.u64.wrap (wb x * 8) = wb (x <<< 3) := shl_u64 x 3
theorem conv64_8p (x : BitVec 64) : IntKind.u8.wrap (wb x) = wb (x.setWidth 8) := conv_u8 x
theorem shr_64 (x : BitVec 64) (i : Nat) : wb x / 2 ^ i = wb (x >>> i) := wb_shr x i
attribute [local go_sem] shl3_64 conv64_8p shr_64
set_option maxHeartbeats 2000000 in
theorem pad_any (n : Nat) (hn : n ≤ 4611686018427387904) (w : World) : Calls Try.prog 48 #[.int .i64 n] w (RetOwn w 5 .u8 (shaPad n)) := by
  have h0 : ¬ (n : Int) < 0 := by omega
  have hn1 : (n : Int) ≤ 4611686018427387904 := by omega
  have e : (64 - ((n : Int) + 8) % 64 + 8) = ((padZ n + 9 : Nat) : Int) := by unfold padZ; omega
  have hmk := fun wx => run_make_words (P := Try.prog) 22 5 .u8 8 1 Try.underlying22 bytesT.hi (padZ n + 9) (by unfold padZ; omega) (by unfold padZ; omega) wx
  rw [Int.natCast_add, show ((9 : Nat) : Int) = 9 from rfl] at hmk
  have hw8 : IntKind.u64.wrap ((n : Int) * 8) = wb (BitVec.ofNat 64 n <<< 3) := by
    rw [← shl3_64 (BitVec.ofNat 64 n)]
    congr 2
    unfold wb
    rw [BitVec.toNat_ofNat]
    omega
  have HZ := Lib.hid (padA_zero n)
  have HL := Lib.hid (padA_length n)
  have HS := Lib.hid (padA_succ n)
  have HA := Lib.hid (padA_all n)
  have hz63 : (padZ n : Int) ≤ 63 := by unfold padZ; omega
  have hzz : padZ n ≤ 63 := by omega
  rw [Int.natCast_add, show ((9 : Nat) : Int) = 9 from rfl] at e
  generalize BitVec.ofNat 64 n <<< 3 = X at *
  generalize padZ n = z at *
  have hb0 : Below w.heap.size w (w.alloc (.cells (encs .u8 (List.replicate (z + 9) (0 : BitVec 8))) 5)) := (Below.refl _ _).alloc (Nat.le_refl _) _
  have hB0 := Blk.new w (encs .u8 (List.replicate (z + 9) (0 : BitVec 8))) 5
  have c0 := hB0.word 0 (by simp)
  have f0 := hB0.frozen 0
  have hi0 : (0 : Int) < (z : Int) + 9 := by omega
  go_enter Try.func48, Try.ntmps48
  go_wp2_with fail
  go_loopw [19] (fun i wr => ∃ k : Nat, k ≤ 8 ∧ i = .int .i64 k ∧ Blk wr w.heap.size (encs .u8 (padA n k)) 5 ∧ Below w.heap.size w wr) (fun i _ => 8 - (intOf i).toNat)
  case atStart =>
    refine ⟨0, by omega, rfl, ?_, (Below.refl _ _).alloc (Nat.le_refl _) _⟩
    rw [← HZ.out, ← encs_set]
    exact Blk.new _ _ _
  case round =>
    clear hB0 hb0 c0 f0
    obtain ⟨k, hk, rfl, hB, hb⟩ := hrel
    by_cases hlt : k < 8
    · have i1 : (k : Int) < 8 := by omega
      have i2 : IntKind.i64.wrap (8 * (k : Int)) = 8 * (k : Int) := IntWalk.i64_in _ (by omega)
      have i3 : (8 * (k : Int)).toNat = 8 * k := by omega
      have i4 : (0 : Int) ≤ 8 * (k : Int) := by omega
      have i5 : IntKind.i64.wrap ((z : Int) + 9 - 1 - (k : Int)) = ((z + 8 - k : Nat) : Int) := by rw [IntWalk.i64_in _ (by omega)]; omega
      have i6 : ((z + 8 - k : Nat) : Int) < (z : Int) + 9 := by omega
      have i7 : (z : Int) + 9 - 1 - (k : Int) = ((z + 8 - k : Nat) : Int) := by omega
      have c1 := hB.word (z + 8 - k) (by rw [HL.out k (by omega)]; omega)
      have f1 := hB.frozen (z + 8 - k)
      have h3 := hB.put (z + 8 - k) ((X >>> (8 * k)).setWidth 8)
      rw [HS.out k hlt] at h3
      go_wp2_with fail
      go_roundw
      case rel =>
        exact ⟨k + 1, by omega, by go_num, h3, below_setCell hb (Nat.le_refl _) _ _⟩
      case measure => simp [intOf]; omega
    · obtain rfl : k = 8 := by omega
      go_wp2_with fail
      go_ret
      have hl := HL.out 8 (by omega)
      rw [HA.out] at hB hl
      refine ⟨_, rfl, ?_, hb⟩
      rw [hl]
      exact blk_own0 hB (Nat.le_refl _) hl (by unfold maxLen; omega)
end Go.Proofs.Ytfamcgmgcchppaa
