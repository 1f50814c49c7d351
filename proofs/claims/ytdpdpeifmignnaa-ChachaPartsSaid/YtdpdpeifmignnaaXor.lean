/- chacha.Xor: bytes xored with the stream from a counter on, in a new row. -/
import Derived.Test.YtdpdpeifmignnaaBlock
namespace Go.Proofs.Ytdpdpeifmignnaa
open Go.RowKit
theorem mem5 : (Try.prog.info? 5).map (fun i => (i.zero, i.size, i.bytes)) = some (some (.int .u8 0), 1, 1) := by kernel_rfl
theorem add_one32 (x : BitVec 32) : IntKind.u32.wrap (wb x + 1) = wb (x + 1#32) := add_u32 x 1#32
attribute [local go_sem] add_one32 bits_xor_u8
set_option maxHeartbeats 6000000 in
theorem xor_any (key nonce b : List (BitVec 8)) (ctr : BitVec 32) (A : Option Addr) (cap : Nat) (hk : key.length = 32) (hn : nonce.length = 12) (hlen : b.length ≤ 140737488351232) (w : World) (hR : Rd w .u8 A b) :
   Calls Try.prog 17 #[.agg (encs .u8 key), .int .u32 (wb ctr), .agg (encs .u8 nonce), .slice A b.length cap] w (RetRow w 5 .u8 (chXor key ctr nonce b)) := by
  have HK : Hid (key.length = 32) := hk
  have HN : Hid (nonce.length = 12) := hn
  clear hk hn
  have HX : Hid (chXor key ctr nonce b = xorM (ksb key ctr nonce) b b.length) := rfl
  generalize hln : b.length = len at *
  have HL : Hid (b.length = len) := hln
  clear hln
  have hmk := fun wx => run_make_words (P := Try.prog) 38 5 .u8 8 1 Try.underlying38 mem5 len (by omega) (by omega) wx
  have hl0 : (len : Int) ≤ 140737488351232 := by omega
  go_enter Try.func17, Try.ntmps17
  go_wp2_with fail
  have HU : Hid (∀ m, len ≤ m → xorM (ksb key ctr nonce) b m = chXor key ctr nonce b) := fun m h => by rw [HX.out, xorM_all _ _ m (by rw [HL.out]; exact h), HL.out]
  go_loopw [10, 11] (fun i n wr => ∃ j : Nat, 64 * j < len + 64 ∧ i = .int .i64 ((64 * j : Nat) : Int) ∧ n = .int .u32 (wb (ctr + BitVec.ofNat 32 j)) ∧ Blk wr w.heap.size (encs .u8 key) 23 ∧ Blk wr (w.heap.size + 1) (encs .u8 nonce) 26 ∧ Blk wr (w.heap.size + 1 + 1) (encs .u8 (xorM (ksb key ctr nonce) b (64 * j))) 5 ∧ Below w.heap.size w wr) (fun i _ _ => len + 64 - (intOf i).toNat)
  case atStart =>
    refine ⟨0, by omega, rfl, by simp, ?_, ?_, ?_, ?_⟩
    · exact ((Blk.new_at _ _ _ _ rfl).alloc _).alloc _
    · exact (Blk.new_at _ _ _ _ (by simp)).alloc _
    · rw [Nat.mul_zero, xorM_zero, HL.out]
      exact Blk.new_at _ _ _ _ (by simp)
    · exact (((Below.refl _ _).alloc (by omega) _).alloc (by simp) _).alloc (by simp; omega) _
  case round =>
    obtain ⟨j, hj, rfl, rfl, hB0, hB1, hB2, hb⟩ := hrel
    obtain ⟨wo, rfl⟩ : ∃ wo : World, wo = wr := ⟨_, rfl⟩
    have hRo := hR.below hb
    by_cases hlt : 64 * j < len
    · have i1 : ((64 * j : Nat) : Int) < (len : Int) := by omega
      go_wp2_with (first | (refine wpList_load_row rfl 23 _ rfl _ rfl 23 _ (0, 0) _ hB0 Try.underlying23 rfl (by rw [encs_size, HK.out]; exact size23) ?_) | (refine wpList_load_row rfl 26 _ rfl _ rfl 26 _ (0, 0) _ hB1 Try.underlying26 rfl (by rw [encs_size, HN.out]; exact size26) ?_) | fail)
      refine (block_any _ _ _ HK.out HN.out _).mono ?_
      rintro e w2 ⟨rfl, hb2⟩
      have hB0' := hB0.below hb2 hB0.lt
      have hB1' := hB1.below hb2 hB1.lt
      have hB2' := hB2.below hb2 hB2.lt
      have hbb := hb.trans (hb2.mono hb.size)
      have hRo' := hRo.below hb2
      have hlt2 := hB2'.lt
      clear hB0 hB1 hB2 hb hRo hb2
      have HB : Hid ((chBlock key (ctr + BitVec.ofNat 32 j) nonce).length = 64) := chBlock_length key (ctr + BitVec.ofNat 32 j) nonce
      have HS : Hid (∀ k, k < 64 → ksb key ctr nonce (64 * j + k) = (chBlock key (ctr + BitVec.ofNat 32 j) nonce).getD k 0) := fun k hk => ksb_at key ctr nonce j k hk
      generalize chBlock key (ctr + BitVec.ofNat 32 j) nonce = cb at *
      go_wp2_with (refine wpList_store_last rfl 30 _ _ rfl _ _ _ 30 rfl rfl (by simp; done) (by rw [encs_size, HB.out]; exact size30) (by rw [encs_size, HB.out]; rfl) (encs_one _ _) ?_)
      all_goals
        go_loopw [35] (fun i wr => ∃ k : Nat, k ≤ 64 ∧ 64 * j + k ≤ len ∧ i = .int .i64 k ∧ Blk wr w.heap.size (encs .u8 key) 23 ∧ Blk wr (w.heap.size + 1) (encs .u8 nonce) 26 ∧ Blk wr (w.heap.size + 1 + 1) (encs .u8 (xorM (ksb key ctr nonce) b (64 * j + k))) 5 ∧ Blk wr w2.heap.size (encs .u8 cb) 30 ∧ Below w.heap.size w wr) (fun i _ => 64 - (intOf i).toNat)
        case atStart => exact ⟨0, by omega, by omega, rfl, hB0'.alloc _, hB1'.alloc _, hB2'.alloc _, Blk.new _ _ _, hbb.alloc hbb.size _⟩
        case round =>
          clear hB0' hB1' hB2' hbb hRo'
          obtain ⟨k, hk, hkl, rfl, hB0, hB1, hB2, hB3, hb⟩ := hrel
          by_cases hkt : k < 64 ∧ 64 * j + k < len
          · obtain ⟨hk1, hk2⟩ := hkt
            have i2 : (k : Int) < 64 := by omega
            have i3 : (k : Int) < (len : Int) - 64 * (j : Int) := by omega
            have i4 : 64 * (j : Int) + (k : Int) < (len : Int) := by omega
            have i5 : 0 ≤ 64 * (j : Int) + (k : Int) := by omega
            obtain ⟨g, off, rfl, hc⟩ := (hR.below hb) (64 * j + k) (by rw [HL.out]; omega)
            have hs := hB3.word k (by rw [HB.out]; omega)
            have ht := hB2.word (64 * j + k) (by rw [xorM_length, HL.out]; omega)
            have hf := hB2.frozen (64 * j + k)
            have HE : Hid ((xorM (ksb key ctr nonce) b (64 * j + k)).set (64 * j + k) (b.getD (64 * j + k) 0 ^^^ cb.getD k 0) = xorM (ksb key ctr nonce) b (64 * j + (k + 1))) := by
              rw [← HS.out k hk1]
              exact xorM_set _ _ _ (by rw [HL.out]; exact hk2)
            go_wp2_with fail
            have s1 : IntKind.i64.wrap (64 * (j : Int) + (k : Int)) = 64 * (j : Int) + (k : Int) := IntWalk.i64_in _ (by omega)
            have s2 : (64 * (j : Int) + (k : Int)).toNat = 64 * j + k := by omega
            refine mix_start (fun w' => Below wr.heap.size wr w') (List.range 16) [15] [9, 12] [15] (by kernel_rfl) (by kernel_rfl) (fun d _ _ _ _ h => by cases d <;> exact h) (Below.refl _ _).drew ?_
            repeat (refine mix_pure rfl rfl (fun K hK => ?_); go_simp; refine hK _ ?_; clear hK K)
            refine mix_read (.int .u8 (wb (b.getD (64 * j + k) 0))) rfl rfl rfl rfl (fun w' hS => ?_) ?_
            · have hc' := below_cell hS hc
              go_simp
            repeat (refine mix_pure rfl rfl (fun K hK => ?_); go_simp; refine hK _ ?_; clear hK K)
            refine mix_read (.int .u8 (wb (cb.getD k 0))) rfl rfl rfl rfl (fun w' hS => ?_) ?_
            · have hc' := below_cell hS hs
              go_simp
            repeat (refine mix_pure rfl rfl (fun K hK => ?_); go_simp; refine hK _ ?_; clear hK K)
            refine mix_ds rfl rfl rfl (fun K hK => ?_)
            go_simp
            refine hK _ _ ?_
            clear hK K
            refine mix_nil ?_
            clear hc hs ht hf s1 s2
            go_wp2
            go_roundw
            case rel =>
              have q0 := hB2.put (64 * j + k) (b.getD (64 * j + k) 0 ^^^ cb.getD k 0)
              rw [HE.out] at q0
              have q1 := hB0.farAt (g' := w.heap.size + 1 + 1) (by omega) (64 * j + k) (.int .u8 (wb (b.getD (64 * j + k) 0 ^^^ cb.getD k 0)))
              have q2 := hB1.farAt (g' := w.heap.size + 1 + 1) (by omega) (64 * j + k) (.int .u8 (wb (b.getD (64 * j + k) 0 ^^^ cb.getD k 0)))
              have q3 := hB3.farAt (g' := w.heap.size + 1 + 1) (by omega) (64 * j + k) (.int .u8 (wb (b.getD (64 * j + k) 0 ^^^ cb.getD k 0)))
              have q4 := below_setCell hb (by omega) (g := w.heap.size + 1 + 1) (64 * j + k) (.int .u8 (wb (b.getD (64 * j + k) 0 ^^^ cb.getD k 0)))
              simp only [List.getD_eq_getElem?_getD] at q0 q1 q2 q3 q4
              first | exact ⟨k + 1, by omega, by omega, by go_num, q1, q2, q0, q3, q4.drew⟩ | ((repeat apply Exists.intro); exact ⟨⟨k + 1, by omega, by omega, by go_num, q1, q2, q0, q3, q4.drew⟩, rfl⟩)
            case measure => simp [intOf]; omega
          · have hend : Hid (xorM (ksb key ctr nonce) b (64 * j + k) = xorM (ksb key ctr nonce) b (64 * (j + 1))) := by
              by_cases h64 : k = 64
              · subst h64
                rfl
              · exact (HU.out _ (by omega)).trans (HU.out _ (by omega)).symm
            rw [hend.out] at hB2
            first | (have i4 : ¬ ((k : Int) < 64) := by omega) | (have i4 : ¬ ((k : Int) < (len : Int) - 64 * (j : Int)) := by omega)
            go_wp2
            go_roundw
            case rel => first | exact ⟨j + 1, by omega, by go_num, by rw [BitVec.ofNat_add, ← BitVec.add_assoc], hB0, hB1, hB2, hb⟩ | ((repeat apply Exists.intro); exact ⟨⟨j + 1, by omega, by go_num, by rw [BitVec.ofNat_add, ← BitVec.add_assoc], hB0, hB1, hB2, hb⟩, rfl⟩)
            case measure => simp [intOf]; omega
    · have i1 : ¬ ((64 * j : Nat) : Int) < (len : Int) := by omega
      rw [HU.out _ (by omega)] at hB2
      have HZ : Hid ((chXor key ctr nonce b).length = len) := (chXor_length key ctr nonce b).trans HL.out
      generalize chXor key ctr nonce b = out at *
      go_wp2
      go_ret
      refine ⟨w.heap.size + 1 + 1, ?_, hB2, by omega, hb⟩
      rw [HZ.out]
      rfl
end Go.Proofs.Ytdpdpeifmignnaa
