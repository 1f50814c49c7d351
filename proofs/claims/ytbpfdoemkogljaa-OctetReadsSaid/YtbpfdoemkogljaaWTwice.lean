/- The walk of OctetTwice. -/
import Derived.Test.YtbpfdoemkogljaaWPuts
namespace Go.Proofs.Ytbpfdoemkogljaa
open Go.RowKit
theorem xorB_twice (l m : List (BitVec 8)) : xorB (xorB l m) m = l.take (min l.length m.length) := by
  apply List.ext_getElem
  · simp [xorB_length]
  · intro i h1 h2
    simp [xorB, BitVec.xor_assoc]
theorem xorB_self (l : List (BitVec 8)) : (xorB l l).all (· == 0) = true := by
  rw [List.all_eq_true]
  intro x hx
  obtain ⟨i, hi, rfl⟩ := List.mem_iff_getElem.1 hx
  simp [xorB]
theorem beq_swap (l m : List (BitVec 8)) : (l == m) = (m == l) := by
  rw [Bool.eq_iff_iff]
  simp only [beq_iff_eq]
  exact eq_comm
theorem num_low (x : BitVec 64) (n : Nat) (h : n ≤ 8) : num (low x n) = x &&& BitVec.ofNat 64 (2 ^ (8 * n) - 1) := by
  induction n with
  | zero => simp [low, num]
  | succ n ih =>
    rw [low_succ, num_snoc, ih (by omega), low_length]
    apply BitVec.eq_of_getLsbD_eq
    intro i hi
    simp only [BitVec.getLsbD_or, BitVec.getLsbD_and, BitVec.getLsbD_shiftLeft, BitVec.getLsbD_setWidth, BitVec.getLsbD_ushiftRight, BitVec.getLsbD_ofNat, Nat.testBit_two_pow_sub_one, hi, decide_true, Bool.true_and]
    by_cases h1 : i < 8 * n
    · simp [h1]
      omega
    · have e : 8 * n + (i - 8 * n) = i := by omega
      rw [e]
      by_cases h2 : i < 8 * (n + 1)
      · have h3 : i - 8 * n < 8 := by omega
        have h4 : i - 8 * n < 64 := by omega
        simp [h1, h2, h3, h4]
      · have h3 : ¬ i - 8 * n < 8 := by omega
        simp [h1, h2, h3]
theorem get64_low8 (x : BitVec 64) : get64 (low x 8) = x := by
  unfold get64
  rw [List.take_of_length_le (by rw [low_length]; omega), num_low x 8 (by omega)]
  apply BitVec.eq_of_getLsbD_eq
  intro i hi
  simp only [BitVec.getLsbD_and, BitVec.getLsbD_ofNat, Nat.testBit_two_pow_sub_one, hi, decide_true, Bool.true_and]
  simp [hi]
attribute [local go_sem] min_imin
set_option maxHeartbeats 4000000 in
theorem twice_walk (a b : List (BitVec 8)) (A B : Option Addr) (cap cap' : Nat) (x : BitVec 64) (w : World) (hR : Rd w .u8 A a) (hM : Rd w .u8 B b) (hc1 : a.length ≤ cap) (hc2 : b.length ≤ cap') (hl1 : a.length ≤ 140737488351232) (hl2 : b.length ≤ 140737488351232) :
    Calls Try.prog 7 #[.slice A a.length cap, .slice B b.length cap', .int .u64 (wb x)] w fun e w' => e = .returned (.bool true) ∧ Below w.heap.size w w' := by
  obtain ⟨n, hn⟩ : ∃ n, n = min a.length b.length := ⟨_, rfl⟩
  have hmin : imin (a.length : Int) (b.length : Int) = (n : Int) := by rw [hn]; exact imin_nat _ _
  have hnc : (n : Int) ≤ (cap : Int) := by omega
  have hA := Lib.hid (arg_mk hR hc1)
  have hB := Lib.hid (arg_mk hM hc2)
  have hT : Hid (Arg w (.slice A n cap) (xorB (xorB a b) b)) := by
    rw [xorB_twice, ← hn]
    exact ⟨A, cap, by rw [List.length_take, Nat.min_eq_left (by omega)], by rw [List.length_take]; omega, rd_take hR n⟩
  have HX : Hid ((xorB a b).length ≤ 140737488351232) := by rw [xorB_length]; show _ ≤ _; omega
  have HXX : Hid ((xorB (xorB a b) b).length ≤ 140737488351232) := by rw [xorB_length, xorB_length]; show _ ≤ _; omega
  have HS : Hid ((xorB a a).length ≤ 140737488351232) := by rw [xorB_length]; show _ ≤ _; omega
  have hl1' := Lib.hid hl1
  have hl2' := Lib.hid hl2
  clear hR hM hn hc1 hc2 hl1 hl2
  have H1 : Hid (a.length ≤ 140737488355328) := by have := hl1'.out; show _ ≤ _; omega
  have H2 : Hid (b.length ≤ 140737488355328) := by have := hl2'.out; show _ ≤ _; omega
  have hs := fun wx => run_slice_to bytesT A a.length cap (n : Int) .i64 (by omega) hnc wx
  simp only [Int.toNat_natCast, cutA_zero] at hs
  generalize a.length = la at hmin hA hs ⊢
  generalize b.length = lb at hmin hB ⊢
  go_enter Try.func7, Try.ntmps7
  go_wp2_with fail
  refine (wakes_any w).mono ?_
  rintro e w1 ⟨rfl, hb⟩
  go_wp2_with fail
  refine mix_start (fun _ => True) [0, 1, 3, 5, 6, 7, 2, 4, 8, 9, 10, 11, 13, 14, 12, 15, 16, 17, 18, 19, 22, 20, 21, 23, 24, 25, 26, 27, 28, 29, 30, 31] [2, 4, 8, 12, 15, 20, 21, 28, 29] [] [] (by kernel_rfl) (by kernel_rfl) (fun d _ _ _ _ h => by cases d <;> exact h) trivial ?_
  replace hb := hb.drew
  generalize World.drew w1 = w2 at *
  repeat (refine mix_pure rfl rfl (fun K hK => ?_); go_simp; refine hK _ ?_; clear hK K)
  refine mix_eff rfl rfl (fun K hK => ?_)
  go_simp
  refine ((oxor_v (hA.out.below hb) (hB.out.below hb) H1.out)).mono ?_
  rintro e w3 ⟨y, rfl, hy, hb2⟩
  replace hy : OwnB w3 _ y (xorB a b) := hy
  replace hb := hb.trans (hb2.mono hb.size)
  clear hb2
  refine hK _ _ (fun _ h => h) ?_
  clear hK K
  repeat (refine mix_pure rfl rfl (fun K hK => ?_); go_simp; refine hK _ ?_; clear hK K)
  refine mix_eff rfl rfl (fun K hK => ?_)
  go_simp
  refine ((oxor_v hy.arg (hB.out.below hb) (by have := HX.out; omega))).mono ?_
  rintro e w4 ⟨z, rfl, hz, hb2⟩
  replace hz : OwnB w4 _ z (xorB (xorB a b) b) := hz
  replace hb := hb.trans (hb2.mono hb.size)
  clear hb2
  refine hK _ _ (fun _ h => h) ?_
  clear hK K
  clear hy
  repeat (refine mix_pure rfl rfl (fun K hK => ?_); go_simp; refine hK _ ?_; clear hK K)
  refine mix_eff rfl rfl (fun K hK => ?_)
  go_simp
  refine ((equal_v hz.arg (hT.out.below hb) (by have := HXX.out; omega))).mono ?_
  rintro e w5 ⟨rfl, hb2⟩
  replace hb := hb.trans (hb2.mono hb.size)
  clear hb2
  refine hK _ _ (fun _ h => h) ?_
  clear hK K
  rw [beq_self_eq_true]
  clear hz
  repeat (refine mix_pure rfl rfl (fun K hK => ?_); go_simp; refine hK _ ?_; clear hK K)
  refine mix_eff rfl rfl (fun K hK => ?_)
  go_simp
  refine ((equal_v (hA.out.below hb) (hB.out.below hb) H1.out)).mono ?_
  rintro e w6 ⟨rfl, hb2⟩
  replace hb := hb.trans (hb2.mono hb.size)
  clear hb2
  refine hK _ _ (fun _ h => h) ?_
  clear hK K
  repeat (refine mix_pure rfl rfl (fun K hK => ?_); go_simp; refine hK _ ?_; clear hK K)
  refine mix_eff rfl rfl (fun K hK => ?_)
  go_simp
  refine ((equal_v (hB.out.below hb) (hA.out.below hb) H2.out)).mono ?_
  rintro e w7 ⟨rfl, hb2⟩
  replace hb := hb.trans (hb2.mono hb.size)
  clear hb2
  refine hK _ _ (fun _ h => h) ?_
  clear hK K
  rw [beq_swap b a]
  generalize (a == b) = r
  repeat (refine mix_pure rfl rfl (fun K hK => ?_); go_simp; refine hK _ ?_; clear hK K)
  refine mix_eff rfl rfl (fun K hK => ?_)
  go_simp
  refine ((put64_v (Arg.nil _) x (by simp))).mono ?_
  rintro e w8 ⟨p, rfl, hp, hb2⟩
  replace hp : OwnB w8 _ p ([] ++ low x 8) := hp
  replace hb := hb.trans (hb2.mono hb.size)
  clear hb2
  refine hK _ _ (fun _ h => h) ?_
  clear hK K
  rw [List.nil_append] at hp
  repeat (refine mix_pure rfl rfl (fun K hK => ?_); go_simp; refine hK _ ?_; clear hK K)
  refine mix_eff rfl rfl (fun K hK => ?_)
  go_simp
  refine ((get64_v hp.arg)).mono ?_
  rintro e _ ⟨rfl, rfl⟩
  refine hK _ _ (fun _ h => h) ?_
  clear hK K
  rw [get64_low8]
  clear hp
  repeat (refine mix_pure rfl rfl (fun K hK => ?_); go_simp; refine hK _ ?_; clear hK K)
  refine mix_eff rfl rfl (fun K hK => ?_)
  go_simp
  refine ((oxor_v (hA.out.below hb) (hA.out.below hb) H1.out)).mono ?_
  rintro e w9 ⟨q, rfl, hq, hb2⟩
  replace hq : OwnB w9 _ q (xorB a a) := hq
  replace hb := hb.trans (hb2.mono hb.size)
  clear hb2
  refine hK _ _ (fun _ h => h) ?_
  clear hK K
  repeat (refine mix_pure rfl rfl (fun K hK => ?_); go_simp; refine hK _ ?_; clear hK K)
  refine mix_eff rfl rfl (fun K hK => ?_)
  go_simp
  refine ((zero_v hq.arg (by have := HS.out; omega))).mono ?_
  rintro e _ ⟨rfl, rfl⟩
  refine hK _ _ (fun _ h => h) ?_
  clear hK K
  rw [xorB_self]
  repeat (refine mix_pure rfl rfl (fun K hK => ?_); go_simp; refine hK _ ?_; clear hK K)
  refine mix_nil ?_
  go_wp2_with fail
  go_ret
  exact ⟨rfl, hb⟩
end Go.Proofs.Ytbpfdoemkogljaa
