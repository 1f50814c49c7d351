/- octet.Xor, and the reference's Low, High, Both, Same. -/
import Derived.Test.YtbpfdoemkogljaaOctGet
namespace Go.Proofs.Ytbpfdoemkogljaa
open Go.RowKit
/-- A row that is being filled. -/
def fill {n : Nat} (l : List (BitVec n)) (k : Nat) : List (BitVec n) := l.take k ++ List.replicate (l.length - k) 0
theorem fill_zero {n : Nat} (l : List (BitVec n)) : fill l 0 = List.replicate l.length 0 := by simp [fill]
theorem fill_all {n : Nat} (l : List (BitVec n)) : fill l l.length = l := by simp [fill]
theorem fill_length {n : Nat} (l : List (BitVec n)) (k : Nat) (h : k ≤ l.length) : (fill l k).length = l.length := by simp [fill]; omega
theorem fill_set {n : Nat} (l : List (BitVec n)) (k : Nat) (h : k < l.length) : (fill l k).set k (l.getD k 0) = fill l (k + 1) := by
  unfold fill
  have e : l.length - k = l.length - (k + 1) + 1 := by omega
  rw [e, List.replicate_succ, List.set_append_right _ _ (by rw [List.length_take]; omega), List.length_take, Nat.min_eq_left (by omega), Nat.sub_self, List.set_cons_zero, take_snoc l 0 k h, List.append_assoc]
  rfl
/-- Bytes xored. -/
def xorB (l m : List (BitVec 8)) : List (BitVec 8) := List.zipWith (· ^^^ ·) l m
theorem xorB_length (l m : List (BitVec 8)) : (xorB l m).length = min l.length m.length := by simp [xorB]
theorem xorB_get (l m : List (BitVec 8)) (k : Nat) (h : k < l.length) (h' : k < m.length) : (xorB l m).getD k 0 = l.getD k 0 ^^^ m.getD k 0 := by
  simp [xorB, List.getD, h, h', List.getElem?_zipWith]
/-- What is owned for sure: a block of its own as long as its words. -/
theorem blk_owns {w : World} {g m base : Nat} {e : TypeId} {k : IntKind} {n : Nat} {l : List (BitVec n)} (h : Blk w g (encs k l) e) (hb : base ≤ g) (hl : l.length = m) (hm : m ≤ maxLen) : w.ownsRow base e 1 (.slice (some ⟨g, 0, none⟩) m m) m (encL k l) :=
  ⟨by rw [encL_length, hl, Nat.mul_one], .inr ⟨g, m, _, rfl, hb, h, Nat.le_refl _, hm, by rw [encs_size, hl, Nat.mul_one], by rw [encs_toList, List.take_of_length_le (by rw [encL_length, hl]; omega)]⟩⟩
attribute [local go_sem] bits_xor_u8 min_imin
set_option maxHeartbeats 2000000 in
theorem oxor_any (l m : List (BitVec 8)) (A B : Option Addr) (cap cap' : Nat) (w : World) (hR : Rd w .u8 A l) (hM : Rd w .u8 B m) (hlen : l.length ≤ 140737488355328) :
    Calls Try.prog 27 #[.slice A l.length cap, .slice B m.length cap'] w (RetOwn w 5 .u8 (xorB l m)) := by
  obtain ⟨x, hx⟩ : ∃ x, x = xorB l m := ⟨_, rfl⟩
  obtain ⟨n, hn⟩ : ∃ n, n = min l.length m.length := ⟨_, rfl⟩
  have HXL : Hid (x.length = n) := by rw [hx, hn]; exact xorB_length l m
  have HXG : Hid (∀ k, k < n → x.getD k 0 = l.getD k 0 ^^^ m.getD k 0) := fun k hk => by rw [hx]; exact xorB_get l m k (by omega) (by omega)
  have hnl : n ≤ l.length := by omega
  have hnm : n ≤ m.length := by omega
  have hmin : imin (l.length : Int) (m.length : Int) = (n : Int) := by rw [hn]; exact imin_nat _ _
  have hmk := fun wx => run_make_words (P := Try.prog) 22 5 .u8 8 1 Try.underlying22 bytesT.hi n (by omega) (by omega) wx
  have hn0 : (n : Int) ≤ 140737488355328 := by omega
  rw [← hx]
  clear hx hn
  have HNL : Hid (n ≤ l.length) := hnl
  have HNM : Hid (n ≤ m.length) := hnm
  have hnl' : (n : Int) ≤ (l.length : Int) := by omega
  have hnm' : (n : Int) ≤ (m.length : Int) := by omega
  clear hnl hnm hlen
  obtain ⟨len, hll⟩ : ∃ len, len = l.length := ⟨_, rfl⟩
  obtain ⟨lem, hlm⟩ : ∃ lem, lem = m.length := ⟨_, rfl⟩
  rw [← hll] at hmin hnl' ⊢
  rw [← hlm] at hmin hnm' ⊢
  clear hll hlm
  go_enter Try.func27, Try.ntmps27
  go_wp2_with fail
  clear hmin hmk
  go_loopw [15] (fun i wr => ∃ k : Nat, k ≤ n ∧ i = .int .i64 k ∧ Blk wr w.heap.size (encs .u8 (fill x k)) 5 ∧ Below w.heap.size w wr) (fun i _ => n - (intOf i).toNat)
  case atStart => exact ⟨0, Nat.zero_le _, rfl, by rw [fill_zero, HXL.out]; exact Blk.new _ _ _, (Below.refl _ _).alloc (Nat.le_refl _) _⟩
  case round =>
    obtain ⟨k, hk, rfl, hB, hb⟩ := hrel
    by_cases hlt : k < n
    · have i1 : (k : Int) < (n : Int) := by omega
      have i2 : (k : Int) < (len : Int) := by omega
      have i3 : (k : Int) < (lem : Int) := by omega
      obtain ⟨g, off, rfl, hc1⟩ := hR k (Nat.lt_of_lt_of_le hlt HNL.out)
      obtain ⟨g', off', rfl, hc2⟩ := hM k (Nat.lt_of_lt_of_le hlt HNM.out)
      replace hc1 := below_cell hb hc1
      replace hc2 := below_cell hb hc2
      have HS := Lib.hid (fill_set x k (by rw [HXL.out]; exact hlt))
      rw [HXG.out k hlt] at HS
      generalize l.getD k 0 = lk at *
      generalize m.getD k 0 = mk at *
      have hq := hB.put k (lk ^^^ mk)
      rw [HS.out] at hq
      have hq2 := below_setCell hb (Nat.le_refl _) k (.int .u8 (wb (lk ^^^ mk)))
      have HQ := Lib.hid hq
      have HQ2 := Lib.hid hq2
      have ht := hB.word k (by rw [fill_length _ _ (by rw [HXL.out]; omega), HXL.out]; exact hlt)
      have hf := hB.frozen k
      clear hq hq2
      go_wp2_with fail
      refine mix_start (fun w' => Below wr.heap.size wr w') (List.range 13) [12] [5, 9] [12] (by kernel_rfl) (by kernel_rfl) (fun d _ _ _ _ h => by cases d <;> exact h) (Below.refl _ _).drew ?_
      repeat (refine mix_pure rfl rfl (fun K hK => ?_); go_simp; refine hK _ ?_; clear hK K)
      refine mix_read (.int .u8 (wb lk)) rfl rfl rfl rfl (fun w' hS => ?_) ?_
      · have hc' := below_cell hS hc1
        go_simp
      repeat (refine mix_pure rfl rfl (fun K hK => ?_); go_simp; refine hK _ ?_; clear hK K)
      refine mix_read (.int .u8 (wb mk)) rfl rfl rfl rfl (fun w' hS => ?_) ?_
      · have hc' := below_cell hS hc2
        go_simp
      repeat (refine mix_pure rfl rfl (fun K hK => ?_); go_simp; refine hK _ ?_; clear hK K)
      refine mix_ds rfl rfl rfl (fun K hK => ?_)
      go_simp
      refine hK _ _ ?_
      clear hK K
      refine mix_nil ?_
      clear hc1 hc2 ht hf
      go_wp2_with fail
      go_roundw
      case rel =>
        first | exact ⟨k + 1, by omega, by go_num, HQ.out, HQ2.out.drew⟩ | ((repeat apply Exists.intro); exact ⟨⟨k + 1, by omega, by go_num, HQ.out, HQ2.out.drew⟩, rfl⟩)
      case measure => simp [intOf]; omega
    · obtain rfl : k = n := by omega
      go_wp2_with fail
      go_ret
      rw [← HXL.out, fill_all] at hB
      exact ⟨_, rfl, by rw [HXL.out]; exact blk_owns hB (Nat.le_refl _) HXL.out (by unfold maxLen; omega), hb⟩
end Go.Proofs.Ytbpfdoemkogljaa
