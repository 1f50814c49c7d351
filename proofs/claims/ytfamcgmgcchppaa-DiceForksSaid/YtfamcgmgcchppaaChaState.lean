/- chacha.state: the words that there are at first. -/
import Derived.Test.YtfamcgmgcchppaaChaSmall
namespace Go.Proofs.Ytfamcgmgcchppaa
open Go.RowKit
theorem size45 : (Try.prog.info? 89).map (·.size) = some 16 := by kernel_rfl
theorem size30 : (Try.prog.info? 70).map (·.size) = some 64 := by kernel_rfl
theorem size23 : (Try.prog.info? 41).map (·.size) = some 32 := by kernel_rfl
theorem size26 : (Try.prog.info? 74).map (·.size) = some 12 := by kernel_rfl
theorem base0_encs (ctr : BitVec 32) : encs .u32 (base0 ctr) = #[Value.int IntKind.u32 1634760805, Value.int IntKind.u32 857760878, Value.int IntKind.u32 2036477234,
      Value.int IntKind.u32 1797285236, Value.int IntKind.u32 0, Value.int IntKind.u32 0, Value.int IntKind.u32 0,
      Value.int IntKind.u32 0, Value.int IntKind.u32 0, Value.int IntKind.u32 0, Value.int IntKind.u32 0,
      Value.int IntKind.u32 0, Value.int IntKind.u32 (wb ctr), Value.int IntKind.u32 0, Value.int IntKind.u32 0,
      Value.int IntKind.u32 0] := rfl
set_option maxRecDepth 100000 in
set_option maxHeartbeats 1600000 in
theorem state_any (key nonce : List (BitVec 8)) (ctr : BitVec 32) (hk : key.length = 32) (hn : nonce.length = 12) (w : World) :
   Calls Try.prog 49 #[.agg (encs .u8 key), .int .u32 (wb ctr), .agg (encs .u8 nonce)] w fun e w' => e = .returned (.agg (encs .u32 (state0 key ctr nonce))) ∧ Below w.heap.size w w' := by
  have HK : Hid (key.length = 32) := hk
  have HN : Hid (nonce.length = 12) := hn
  clear hk hn
  go_enter Try.func49, Try.ntmps49
  go_wp2
  go_loopw [12] (fun i wr => ∃ k : Nat, k ≤ 8 ∧ i = .int .i64 k ∧ Blk wr w.heap.size (encs .u8 key) 41 ∧ Blk wr (w.heap.size + 1) (encs .u8 nonce) 74 ∧ (∃ z, Blk wr (w.heap.size + 1 + 1) (encs .u32 z) 89 ∧ z.length = 16) ∧ Blk wr (w.heap.size + 1 + 1 + 1) (encs .u32 (fillW 4 key (base0 ctr) k)) 89 ∧ Below w.heap.size w wr) (fun i _ => 8 - (intOf i).toNat)
  case atStart =>
    refine ⟨0, by omega, rfl, ?_, ?_, ⟨List.replicate 16 0#32, ?_, rfl⟩, ?_, ?_⟩
    · repeat' (first | exact Blk.new_at _ _ _ _ (by simp; done) | refine Blk.alloc ?_ _)
    · repeat' (first | exact Blk.new_at _ _ _ _ (by simp; done) | refine Blk.alloc ?_ _)
    · repeat' (first | exact Blk.new_at _ _ _ _ (by simp; done) | refine Blk.alloc ?_ _)
    · repeat' (first | exact Blk.new_at _ _ _ _ (by simp; done) | refine Blk.alloc ?_ _)
    · repeat' (first | exact Below.refl _ _ | refine Below.alloc ?_ ?_ _ | (simp; done) | (simp; omega))
  case round =>
    obtain ⟨k, hk, rfl, hB0, hB1, ⟨z, hB2, hz⟩, hB3, hb⟩ := hrel
    have HZ : Hid (z.length = 16) := hz
    clear hz
    by_cases hlt : k < 8
    · have h0 := hB0.word (4 * k) (by rw [HK.out]; omega)
      have h1 := hB0.word (4 * k + 1) (by rw [HK.out]; omega)
      have h2 := hB0.word (4 * k + 2) (by rw [HK.out]; omega)
      have h3 := hB0.word (4 * k + 3) (by rw [HK.out]; omega)
      have l0 : (0 : Int) ≤ 4 * (k : Int) := by omega
      have l1 : 4 * (k : Int) ≤ 32 := by omega
      have l2 : (k : Int) < 8 := by omega
      go_wp2_with fail
      refine (read_any _ _ _ _ _ _ _ _ _ (by omega) h0 h1 h2 h3).mono ?_
      rintro e w' ⟨rfl, rfl⟩
      clear h0 h1 h2 h3
      have h4 := hB3.word (4 + k) (by rw [fillW_length]; simp [base0]; omega)
      have h5 := hB3.frozen (4 + k)
      go_wp2_with fail
      clear h4 h5
      go_roundw
      case rel =>
        exact ⟨k + 1, by omega, by go_num, hB0.farAt (by omega) _ _, hB1.farAt (by omega) _ _, ⟨z, hB2.farAt (by omega) _ _, HZ.out⟩, hB3.put (4 + k) (wd key k), below_setCell hb (by omega) _ _⟩
      case measure => simp [intOf]; omega
    · obtain rfl : k = 8 := by omega
      go_wp2
      go_loopw [23] (fun i wr => ∃ k : Nat, k ≤ 3 ∧ i = .int .i64 k ∧ Blk wr w.heap.size (encs .u8 key) 41 ∧ Blk wr (w.heap.size + 1) (encs .u8 nonce) 74 ∧ (∃ z, Blk wr (w.heap.size + 1 + 1) (encs .u32 z) 89 ∧ z.length = 16) ∧ Blk wr (w.heap.size + 1 + 1 + 1) (encs .u32 (fillW 13 nonce (fillW 4 key (base0 ctr) 8) k)) 89 ∧ Below w.heap.size w wr) (fun i _ => 3 - (intOf i).toNat)
      case atStart => exact ⟨0, by omega, rfl, hB0, hB1, ⟨z, hB2, HZ.out⟩, hB3, hb⟩
      case round =>
        clear hB0 hB1 hB2 hB3 hb
        obtain ⟨k, hk, rfl, hB0, hB1, ⟨z, hB2, hz⟩, hB3, hb⟩ := hrel
        clear HZ
        have HZ : Hid (z.length = 16) := hz
        clear hz
        by_cases hlt : k < 3
        · have h0 := hB1.word (4 * k) (by rw [HN.out]; omega)
          have h1 := hB1.word (4 * k + 1) (by rw [HN.out]; omega)
          have h2 := hB1.word (4 * k + 2) (by rw [HN.out]; omega)
          have h3 := hB1.word (4 * k + 3) (by rw [HN.out]; omega)
          have l0 : (0 : Int) ≤ 4 * (k : Int) := by omega
          have l1 : 4 * (k : Int) ≤ 12 := by omega
          have l2 : (k : Int) < 3 := by omega
          go_wp2_with fail
          refine (read_any _ _ _ _ _ _ _ _ _ (by omega) h0 h1 h2 h3).mono ?_
          rintro e w' ⟨rfl, rfl⟩
          clear h0 h1 h2 h3
          have h4 := hB3.word (13 + k) (by rw [fillW_length, fillW_length]; simp [base0]; omega)
          have h5 := hB3.frozen (13 + k)
          go_wp2_with fail
          clear h4 h5
          go_roundw
          case rel =>
            first | exact ⟨k + 1, by omega, by go_num, hB0.farAt (by omega) _ _, hB1.farAt (by omega) _ _, ⟨z, hB2.farAt (by omega) _ _, HZ.out⟩, hB3.put (13 + k) (wd nonce k), below_setCell hb (by omega) _ _⟩ | ((repeat apply Exists.intro); exact ⟨⟨k + 1, by omega, by go_num, hB0.farAt (by omega) _ _, hB1.farAt (by omega) _ _, ⟨z, hB2.farAt (by omega) _ _, HZ.out⟩, hB3.put (13 + k) (wd nonce k), below_setCell hb (by omega) _ _⟩, rfl⟩)
          case measure => simp [intOf]; omega
        · obtain rfl : k = 3 := by omega
          have hB4 : Blk wr (w.heap.size + 1 + 1 + 1) (encs .u32 (state0 key ctr nonce)) 89 := hB3
          clear hB3
          go_wp2_with (first | (refine wpList_load_row rfl 89 _ rfl _ rfl 89 _ (0, 0) _ hB4 Try.underlying89 rfl (by rw [encs_size, state0_length]; exact size45) ?_) | (refine wpList_store_row rfl 89 _ _ rfl _ _ rfl rfl 89 _ hB2 (by rw [encs_size, state0_length]; exact size45) (by rw [encs_size, encs_size, HZ.out, state0_length]) (encs_one _ _) ?_))
          refine bodyPost_ret (results_cell_row rfl _ _ _ _ _ _ _ rfl (hB2.row _) Try.underlying89 rfl (by rw [encs_size, state0_length]; exact size45)) rfl ⟨rfl, below_setRow hb (by omega) _⟩
end Go.Proofs.Ytfamcgmgcchppaa
