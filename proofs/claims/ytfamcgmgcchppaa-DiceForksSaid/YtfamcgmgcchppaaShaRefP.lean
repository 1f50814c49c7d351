/- The reference's constants, begin and Pad. -/
import Derived.Test.YtfamcgmgcchppaaShaSumB
import Derived.Test.YtfamcgmgcchppaaArgV0
namespace Go.Proofs.Ytfamcgmgcchppaa
open Go.RowKit
set_option linter.unusedVariables false
set_option linter.unusedSimpArgs false
set_option maxRecDepth 100000 in
theorem constants_any (w : World) : Calls Try.prog 37 #[] w fun e w' => e = .returned (.agg (encs .u32 shK)) ∧ Below w.heap.size w w' := by
  have hB := Blk.new w (encs .u32 (List.replicate 64 (0 : BitVec 32))) 83
  have hb : Below w.heap.size w (w.alloc (.cells (encs .u32 (List.replicate 64 (0 : BitVec 32))) 83)) := (Below.refl _ _).alloc (Nat.le_refl _) _
  have HL := Lib.hid shK_length
  go_enter Try.func37, Try.ntmps37
  go_wp2_with (first | (refine wpList_build rfl 83 _ rfl (.agg (encs .u32 shK)) _ (fun wx => by kernel_rfl) rfl ?_) | (refine wpList_store_row rfl 83 _ _ rfl _ _ rfl rfl 83 _ hB (by rw [encs_size, HL.out]; exact size64w) (by rw [encs_size, encs_size, HL.out]; rfl) (encs_one _ _) ?_) | fail)
  refine bodyPost_ret (v := .agg (encs .u32 shK)) (results_cell_row rfl _ _ _ _ _ _ _ rfl (hB.row _) Try.underlying83 rfl (by rw [encs_size, HL.out]; exact size64w)) rfl ⟨rfl, below_setRow hb (Nat.le_refl _) _⟩
set_option maxRecDepth 100000 in
theorem begin_any (w : World) : Calls Try.prog 39 #[] w fun e w' => e = .returned (.agg (encs .u32 shH.l)) ∧ Below w.heap.size w w' := by
  have hB := Blk.new w (encs .u32 (List.replicate 8 (0 : BitVec 32))) 85
  have hb : Below w.heap.size w (w.alloc (.cells (encs .u32 (List.replicate 8 (0 : BitVec 32))) 85)) := (Below.refl _ _).alloc (Nat.le_refl _) _
  have HL := Lib.hid (S8.l_length shH)
  go_enter Try.func39, Try.ntmps39
  go_wp2_with (first | (refine wpList_build rfl 85 _ rfl (.agg (encs .u32 shH.l)) _ (fun wx => by kernel_rfl) rfl ?_) | (refine wpList_store_row rfl 85 _ _ rfl _ _ rfl rfl 85 _ hB (by rw [encs_size, HL.out]; exact size8w) (by rw [encs_size, encs_size, HL.out]; rfl) (encs_one _ _) ?_) | fail)
  refine bodyPost_ret (v := .agg (encs .u32 shH.l)) (results_cell_row rfl _ _ _ _ _ _ _ rfl (hB.row _) Try.underlying85 rfl (by rw [encs_size, HL.out]; exact size8w)) rfl ⟨rfl, below_setRow hb (Nat.le_refl _) _⟩
theorem rpad_neg (n : Int) (h : n < 0) (w : World) : Calls Try.prog 38 #[.int .i64 n] w fun e w' => e = .returned (.slice none 0 0) ∧ w = w' := by
  go_enter Try.func38, Try.ntmps38
  go_wp2_with fail
  go_ret
  exact ⟨rfl, rfl⟩
theorem be64_getD (x : BitVec 64) (k c : Nat) (h : c < k) : (be64 x k).getD c 0 = (x >>> (8 * (k - 1 - c))).setWidth 8 := by
  induction k generalizing c with
  | zero => omega
  | succ k ih =>
    cases c with
    | zero => simp [be64, List.getD]
    | succ c =>
      have := ih c (by omega)
      simp only [be64, List.getD_cons_succ]
      rw [this, show k - 1 - c = k + 1 - 1 - (c + 1) by omega]
attribute [local go_sem] shl3_64 conv64_8p shr_64
set_option maxHeartbeats 4000000 in
theorem rpad_any (n : Nat) (hn : n ≤ 4611686018427387904) (w : World) : Calls Try.prog 38 #[.int .i64 n] w (RetOwn w 5 .u8 (shaPad n)) := by
  have h0 : ¬ (n : Int) < 0 := by omega
  have hn1 : (n : Int) ≤ 4611686018427387904 := by omega
  have hw8 : IntKind.u64.wrap ((n : Int) * 8) = wb (BitVec.ofNat 64 n <<< 3) := by
    rw [← shl3_64 (BitVec.ofNat 64 n)]
    congr 2
    unfold wb
    rw [BitVec.toNat_ofNat]
    omega
  have hPZ : padZ n ≤ 63 := by unfold padZ; omega
  have hZ0 : (n + 1 + padZ n + 8) % 64 = 0 := by unfold padZ; omega
  have hZ1 : ∀ j, j < padZ n → (n + 1 + j + 8) % 64 ≠ 0 := fun j h => by unfold padZ at h; omega
  have HSP : Hid (shaPad n = [(0x80 : BitVec 8)] ++ List.replicate (padZ n) (0 : BitVec 8) ++ be64 (BitVec.ofNat 64 n <<< 3) 8) := rfl
  have HZ0 := Lib.hid hZ0
  have HZ1 := Lib.hid hZ1
  clear hZ0 hZ1
  generalize BitVec.ofNat 64 n <<< 3 = X at *
  generalize padZ n = z at *
  go_enter Try.func38, Try.ntmps38
  go_wp2_with fail
  go_loopw [3] (fun v wr => ∃ (j : Nat) (A : Option Addr) (cap : Nat), j ≤ z ∧ v = .slice A (1 + j) cap ∧ OwnB wr w.heap.size v ([(0x80 : BitVec 8)] ++ List.replicate j 0) ∧ Below w.heap.size w wr) (fun v _ => 64 - sliceLen v)
  case atStart =>
    refine ⟨0, some ⟨w.heap.size, 0, none⟩, 1, by omega, rfl, ?_, (Below.refl _ _).alloc (Nat.le_refl _) _⟩
    exact OwnB.lit [(0x80 : BitVec 8)] (Nat.le_refl _) (by simp)
  case round =>
    obtain ⟨j, A, cap, hj, rfl, hown, hb⟩ := hrel
    by_cases hlt : j < z
    · have t0 : (((n : Int) + (1 + (j : Int)) + 8) % 64 != 0) = true := by have := HZ1.out j hlt; simp; omega
      have HNX : Hid ([(0x80 : BitVec 8)] ++ List.replicate j 0 ++ [0] = [(0x80 : BitVec 8)] ++ List.replicate (j + 1) 0) := by show _ = _; rw [List.append_assoc, ← List.replicate_succ']
      have HLN : Hid (([(0x80 : BitVec 8)] ++ List.replicate (j + 1) 0).length = 1 + (j + 1)) := by show _ = _; simp; omega
      have hba := hb.alloc hb.size (.cells #[.int .u8 0] 5)
      have hown2 : OwnB (wr.alloc (.cells #[.int .u8 0] 5)) w.heap.size (.slice A (1 + j) cap) ([(0x80 : BitVec 8)] ++ List.replicate j 0) := hown.below ((Below.refl _ _).alloc (Nat.le_refl _) _)
      clear hown
      go_wp2_with (first | (at_builtin; refine wpList_app rfl _ _ rfl w.heap.size _ _ rfl hown2 _ [0] rfl ⟨_, 1, rfl, Nat.le_refl _, (Blk.new _ _ _).rd⟩ (by simp; omega) hba.size ?_; intro v' w' h' hb'; rw [HNX.out] at h'; obtain ⟨A', c', rfl, _, _⟩ := h'.arg; rw [HLN.out] at h' ⊢) | fail)
      go_roundw
      case rel => exact ⟨j + 1, A', c', by omega, rfl, h', hba.trans hb'⟩
      case measure => simp [sliceLen]; omega
    · obtain rfl : j = z := by omega
      have t0 : (((n : Int) + (1 + (j : Int)) + 8) % 64 != 0) = false := by have := HZ0.out; simp; omega
      have HL0 : Hid (([(0x80 : BitVec 8)] ++ List.replicate j (0 : BitVec 8)).length = 1 + j) := by show _ = _; simp; omega
      generalize [(0x80 : BitVec 8)] ++ List.replicate j (0 : BitVec 8) = P0 at *
      go_wp2_with fail
      go_loopw [3, 5] (fun v i wr => ∃ (k : Nat) (A : Option Addr) (cap : Nat), k ≤ 8 ∧ i = .int .i64 ((7 : Int) - k) ∧ v = .slice A (1 + j + k) cap ∧ OwnB wr w.heap.size v (P0 ++ (be64 X 8).take k) ∧ Below w.heap.size w wr) (fun _ i _ => (1 + intOf i).toNat)
      case atStart => exact ⟨0, A, cap, by omega, rfl, rfl, by rw [List.take_zero, List.append_nil]; exact hown, hb⟩
      case round =>
        clear hown hb hj hlt t0
        obtain ⟨k, A, cap, hk, rfl, rfl, hown, hb⟩ := hrel
        by_cases hk8 : k < 8
        · have i0 : (0 : Int) ≤ 7 - (k : Int) := by omega
          have i1 : IntKind.i64.wrap (8 * ((7 : Int) - k)) = ((8 * (7 - k) : Nat) : Int) := by rw [IntWalk.i64_in _ (by omega)]; omega
          have hg := be64_getD X 8 k hk8
          have HNX : Hid (P0 ++ (be64 X 8).take k ++ [(X >>> (8 * (7 - k))).setWidth 8] = P0 ++ (be64 X 8).take (k + 1)) := by
            show _ = _
            rw [List.append_assoc, List.take_succ_eq_append_getElem (by rw [be64_length]; exact hk8)]
            congr 3
            rw [show 8 - 1 - k = 7 - k from by omega] at hg
            rw [← hg]
            simp [List.getD, be64_length, hk8]
          have HLN : Hid ((P0 ++ (be64 X 8).take (k + 1)).length = 1 + j + (k + 1)) := by show _ = _; rw [List.length_append, HL0.out, List.length_take, be64_length]; omega
          have HLO : Hid ((P0 ++ (be64 X 8).take k).length = 1 + j + k) := by show _ = _; rw [List.length_append, HL0.out, List.length_take, be64_length]; omega
          clear hg
          generalize hP2 : P0 ++ (be64 X 8).take (k + 1) = P2 at *
          have HP2 := Lib.hid hP2
          clear hP2
          generalize P0 ++ (be64 X 8).take k = P1 at *
          have hba := hb.alloc hb.size (.cells #[.int .u8 (wb ((X >>> (8 * (7 - k))).setWidth 8))] 5)
          have hown2 : OwnB (wr.alloc (.cells #[.int .u8 (wb ((X >>> (8 * (7 - k))).setWidth 8))] 5)) w.heap.size (.slice A (1 + j + k) cap) P1 := hown.below ((Below.refl _ _).alloc (Nat.le_refl _) _)
          clear hown
          have j0 : (0 : Int) ≤ ((8 * (7 - k) : Nat) : Int) := by omega
          have i2 : (0 : Int) ≤ 8 * (7 - (k : Int)) := by omega
          have i3 : (8 * (7 - (k : Int))).toNat = 8 * (7 - k) := by omega
          go_wp2_with (first | (at_builtin; refine wpList_app rfl _ _ rfl w.heap.size _ _ rfl hown2 _ [(X >>> (8 * (7 - k))).setWidth 8] rfl ⟨_, 1, rfl, Nat.le_refl _, (Blk.new _ _ _).rd⟩ (by rw [HLO.out]; simp; omega) hba.size ?_; intro v' w' h' hb'; rw [HNX.out] at h'; obtain ⟨A', c', rfl, _, _⟩ := h'.arg; rw [HLN.out] at h' ⊢) | fail)
          go_roundw
          case rel => exact ⟨k + 1, A', c', by omega, by simp; omega, rfl, by rw [HP2.out]; exact h', hba.trans hb'⟩
          case measure => simp [intOf]; omega
        · obtain rfl : k = 8 := by omega
          rw [List.take_of_length_le (by rw [be64_length]; omega), ← HSP.out] at hown
          go_wp2_with fail
          go_ret
          exact ⟨_, rfl, by exact hown, hb⟩
end Go.Proofs.Ytfamcgmgcchppaa
