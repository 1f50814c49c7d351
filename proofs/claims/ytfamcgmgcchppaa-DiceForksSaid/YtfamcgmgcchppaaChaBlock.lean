/- chacha.Block: the block of a key, a counter and a nonce. -/
import Derived.Test.YtfamcgmgcchppaaChaState
import Derived.Test.YtfamcgmgcchppaaChaBlockQ
import Derived.Lib.Hide
namespace Go.Proofs.Ytfamcgmgcchppaa
open Go.RowKit
def zeros16 : List (BitVec 32) := List.replicate 16 0#32
def zeros64 : List (BitVec 8) := List.replicate 64 0#8
theorem size24 : (Try.prog.info? 72).map (·.size) = some 1 := by kernel_rfl
theorem conv32_8 (x : BitVec 32) : IntKind.u8.wrap (wb x) = wb (x.setWidth 8) := conv_u8 x
attribute [local go_sem] World.cell?_setCell_other conv32_8 shr8 shr16 shr24 add_u32
set_option maxRecDepth 100000 in
set_option maxHeartbeats 6000000 in
theorem block_any (key nonce : List (BitVec 8)) (ctr : BitVec 32) (hk : key.length = 32) (hn : nonce.length = 12) (w : World) :
   Calls Try.prog 36 #[.agg (encs .u8 key), .int .u32 (wb ctr), .agg (encs .u8 nonce)] w fun e w' => e = .returned (.agg (encs .u8 (chBlock key ctr nonce))) ∧ Below w.heap.size w w' := by
  have HK : Hid (key.length = 32) := hk
  have HN : Hid (nonce.length = 12) := hn
  clear hk hn
  go_enter Try.func36, Try.ntmps36
  go_wp2_with (first | (refine wpList_load_row rfl 41 _ rfl _ rfl 41 (encs .u8 key) (0, 0) _ (by repeat' (first | exact Blk.new_at _ _ _ _ (by simp; done) | refine Blk.alloc ?_ _)) Try.underlying41 rfl (by rw [encs_size, HK.out]; exact size23) ?_) | (refine wpList_load_row rfl 74 _ rfl _ rfl 74 (encs .u8 nonce) (0, 0) _ (by repeat' (first | exact Blk.new_at _ _ _ _ (by simp; done) | refine Blk.alloc ?_ _)) Try.underlying74 rfl (by rw [encs_size, HN.out]; exact size26) ?_) | fail)
  refine (state_any key nonce ctr HK.out HN.out _).mono ?_
  rintro e w1 ⟨rfl, hb1⟩
  have hB2 : Blk w1 (w.heap.size + 2) (encs .u8 zeros64) 70 := by
    refine Blk.below ?_ hb1 (by simp)
    repeat' (first | exact Blk.new_at _ _ _ _ (by simp; done) | refine Blk.alloc ?_ _)
  have hsz : w.heap.size + 3 ≤ w1.heap.size := by have := hb1.size; simp at this; omega
  have hb : Below w.heap.size w w1 := by
    refine Below.trans ?_ (hb1.mono (by simp; omega))
    repeat' (first | exact Below.refl _ _ | refine Below.alloc ?_ ?_ _ | (simp; done) | (simp; omega))
  clear hb1
  go_wp2_with (first | (refine wpList_store_last rfl 89 _ _ rfl _ _ (encs .u32 (state0 key ctr nonce)) 89 rfl rfl (by simp; done) (by rw [encs_size, state0_length]; exact size45) (by rw [encs_size, state0_length]; rfl) (encs_one _ _) ?_) | (refine wpList_load_last rfl 89 _ rfl _ (encs .u32 (state0 key ctr nonce)) 89 (0, 0) _ rfl (by simp; done) Try.underlying89 rfl (by rw [encs_size, state0_length]; exact size45) ?_))
  have HL : Hid ((state0 key ctr nonce).length = 16) := state0_length key ctr nonce
  have HC : Hid (chBlock key ctr nonce = outK (roundK (state0 key ctr nonce) 10) (state0 key ctr nonce) 16) := rfl
  generalize state0 key ctr nonce = s0 at *
  go_loopw [21] (fun i wr => ∃ n : Nat, n ≤ 10 ∧ i = .int .i64 n ∧ Blk wr (w.heap.size + 1 + 1) (encs .u8 zeros64) 70 ∧ Blk wr w1.heap.size (encs .u32 s0) 89 ∧ Blk wr (w1.heap.size + 1) (encs .u32 (roundK s0 n)) 89 ∧ Below w.heap.size w wr) (fun i _ => 10 - (intOf i).toNat)
  case atStart =>
    refine ⟨0, by omega, rfl, ?_, ?_, ?_, ?_⟩
    · exact (hB2.alloc _).alloc _
    · exact (Blk.new_at _ _ _ _ rfl).alloc _
    · exact Blk.new_at _ _ _ _ (by simp)
    · exact (hb.alloc hb.size _).alloc (by simp; omega) _
  case round =>
    clear hB2 hb
    obtain ⟨n, hn, rfl, hB6, hB7, hB8, hb⟩ := hrel
    obtain ⟨wo, rfl⟩ : ∃ wo : World, wo = wr := ⟨_, rfl⟩
    by_cases hlt : n < 10
    · have i1 : (n : Int) < 10 := by omega
      go_wp2
      go_loopw [23] (fun i wr => ∃ k : Nat, k ≤ 4 ∧ i = .int .i64 k ∧ Blk wr (w.heap.size + 1 + 1) (encs .u8 zeros64) 70 ∧ Blk wr w1.heap.size (encs .u32 s0) 89 ∧ Blk wr (w1.heap.size + 1) (encs .u32 (colK (roundK s0 n) k)) 89 ∧ Below w.heap.size w wr) (fun i _ => 4 - (intOf i).toNat)
      case atStart => exact ⟨0, by omega, rfl, hB6, hB7, hB8, hb⟩
      case round =>
        clear hB6 hB7 hB8 hb
        obtain ⟨k, hk, rfl, hB6, hB7, hB8, hb⟩ := hrel
        by_cases hkt : k < 4
        · have i2 : (k : Int) < 4 := by omega
          have e1 : ((4 + k : Nat) : Int) = 4 + (k : Int) := by omega
          have e2 : ((8 + k : Nat) : Int) = 8 + (k : Int) := by omega
          have e3 : ((12 + k : Nat) : Int) = 12 + (k : Int) := by omega
          have HQ := blockq_any k (4 + k) (8 + k) (12 + k) _ _ _ _ (by rw [colK_length, roundK_length]; exact HL.out) (by omega) (by omega) (by omega) (by omega) hB8 (by omega) (by omega) (by omega) (by omega) (by omega) (by omega)
          rw [e1, e2, e3] at HQ
          clear e1 e2 e3
          have HQ' := Lib.hid HQ
          clear HQ
          go_wp2_with fail
          refine (HQ'.out).mono ?_
          rintro e w2 ⟨rfl, hq1, hq2⟩
          clear HQ'
          go_wp2
          go_roundw
          case rel => exact ⟨k + 1, by omega, by go_num, hB6.upd hq2 (by omega), hB7.upd hq2 (by omega), hq1, hq2.below hb (by omega) hb.size⟩
          case measure => simp [intOf]; omega
        · obtain rfl : k = 4 := by omega
          go_wp2
          obtain ⟨wi, rfl⟩ : ∃ wi : World, wi = wr := ⟨_, rfl⟩
          go_loopw [36] (fun i wr => ∃ k : Nat, k ≤ 4 ∧ i = .int .i64 k ∧ Blk wr (w.heap.size + 1 + 1) (encs .u8 zeros64) 70 ∧ Blk wr w1.heap.size (encs .u32 s0) 89 ∧ Blk wr (w1.heap.size + 1) (encs .u32 (diaK (colK (roundK s0 n) 4) k)) 89 ∧ Below w.heap.size w wr) (fun i _ => 4 - (intOf i).toNat)
          case atStart => exact ⟨0, by omega, rfl, hB6, hB7, hB8, hb⟩
          case round =>
            clear hB6 hB7 hB8 hb hk hkt
            obtain ⟨k, hk, rfl, hB6, hB7, hB8, hb⟩ := hrel
            by_cases hkt : k < 4
            · have i2 : (k : Int) < 4 := by omega
              have e1 : ((4 + (k + 1) % 4 : Nat) : Int) = 4 + ((k : Int) + 1) % 4 := by omega
              have e2 : ((8 + (k + 2) % 4 : Nat) : Int) = 8 + ((k : Int) + 2) % 4 := by omega
              have e3 : ((12 + (k + 3) % 4 : Nat) : Int) = 12 + ((k : Int) + 3) % 4 := by omega
              have HQ := blockq_any k (4 + (k + 1) % 4) (8 + (k + 2) % 4) (12 + (k + 3) % 4) _ _ _ _ (by rw [diaK_length, colK_length, roundK_length]; exact HL.out) (by omega) (by omega) (by omega) (by omega) hB8 (by omega) (by omega) (by omega) (by omega) (by omega) (by omega)
              rw [e1, e2, e3] at HQ
              clear e1 e2 e3
              have HQ' := Lib.hid HQ
              clear HQ
              go_wp2_with fail
              refine (HQ'.out).mono ?_
              rintro e w2 ⟨rfl, hq1, hq2⟩
              clear HQ'
              go_wp2
              go_roundw
              case rel => first | exact ⟨k + 1, by omega, by go_num, hB6.upd hq2 (by omega), hB7.upd hq2 (by omega), hq1, hq2.below hb (by omega) hb.size⟩ | ((repeat apply Exists.intro); exact ⟨⟨k + 1, by omega, by go_num, hB6.upd hq2 (by omega), hB7.upd hq2 (by omega), hq1, hq2.below hb (by omega) hb.size⟩, rfl⟩)
              case measure => simp [intOf]; omega
            · obtain rfl : k = 4 := by omega
              go_wp2
              go_roundw
              case rel => first | exact ⟨n + 1, by omega, by go_num, hB6, hB7, hB8, hb⟩ | ((repeat apply Exists.intro); exact ⟨⟨n + 1, by omega, by go_num, hB6, hB7, hB8, hb⟩, rfl⟩)
              case measure => simp [intOf]; omega
    · obtain rfl : n = 10 := by omega
      clear hn hlt
      have HR : Hid ((roundK s0 10).length = 16) := (roundK_length s0 10).trans HL.out
      generalize roundK s0 10 = r at *
      go_wp2_with (refine wpList_load_row rfl 89 _ rfl _ rfl 89 _ (0, 0) _ (hB8.alloc _) Try.underlying89 rfl (by rw [encs_size, HR.out]; exact size45) ?_)
      go_loopw [57] (fun i wr => ∃ k : Nat, k ≤ 16 ∧ i = .int .i64 k ∧ Blk wr (w.heap.size + 1 + 1) (encs .u8 zeros64) 70 ∧ Blk wr w1.heap.size (encs .u32 s0) 89 ∧ Blk wr wo.heap.size (encs .u8 (outK r s0 k)) 70 ∧ Below w.heap.size w wr) (fun i _ => 16 - (intOf i).toNat)
      case atStart => exact ⟨0, by omega, rfl, hB6.alloc _, hB7.alloc _, Blk.new _ _ _, hb.alloc hb.size _⟩
      case round =>
        have hlt6 := hB6.lt
        have hlt7 := hB7.lt
        have hsz2 := hb.size
        clear hB6 hB7 hB8 hb
        obtain ⟨k, hk, rfl, hB6, hB7, hB8, hb⟩ := hrel
        by_cases hkt : k < 16
        · have i2 : (k : Int) < 16 := by omega
          have f0 := hB7.word k (by rw [HL.out]; omega)
          have g0 := hB8.word (4 * k) (by rw [outK_length]; omega)
          have g1 := hB8.word (4 * k + 1) (by rw [outK_length]; omega)
          have g2 := hB8.word (4 * k + 2) (by rw [outK_length]; omega)
          have g3 := hB8.word (4 * k + 3) (by rw [outK_length]; omega)
          have z0 := hB8.frozen (4 * k)
          have z1 := hB8.frozen (4 * k + 1)
          have z2 := hB8.frozen (4 * k + 2)
          have z3 := hB8.frozen (4 * k + 3)
          have j0 : 4 * (k : Int) < 64 := by omega
          have j1 : 4 * (k : Int) + 1 < 64 := by omega
          have j2 : 4 * (k : Int) + 2 < 64 := by omega
          have j3 : 4 * (k : Int) + 3 < 64 := by omega
          have hix := fun wx => run_index_encs (P := Try.prog) 89 72 .i64 .u32 Try.underlying89 Try.underlying72 size24 r .u32 (k : Int) (by omega) (by rw [HR.out]; omega) HR.out wx
          rw [Int.toNat_natCast] at hix
          go_wp2_with fail
          clear f0 g0 g1 g2 g3 z0 z1 z2 z3 hix
          go_roundw
          case rel =>
            have q0 := (((hB8.put (4 * k) ((r.getD k 0 + s0.getD k 0).setWidth 8)).put (4 * k + 1) (((r.getD k 0 + s0.getD k 0) >>> 8).setWidth 8)).put (4 * k + 2) (((r.getD k 0 + s0.getD k 0) >>> 16).setWidth 8)).put (4 * k + 3) (((r.getD k 0 + s0.getD k 0) >>> 24).setWidth 8)
            have q1 := (((hB6.farAt (g' := wo.heap.size) (by omega) (4 * k) (.int .u8 (wb ((r.getD k 0 + s0.getD k 0).setWidth 8)))).farAt (g' := wo.heap.size) (by omega) (4 * k + 1) (.int .u8 (wb (((r.getD k 0 + s0.getD k 0) >>> 8).setWidth 8)))).farAt (g' := wo.heap.size) (by omega) (4 * k + 2) (.int .u8 (wb (((r.getD k 0 + s0.getD k 0) >>> 16).setWidth 8)))).farAt (g' := wo.heap.size) (by omega) (4 * k + 3) (.int .u8 (wb (((r.getD k 0 + s0.getD k 0) >>> 24).setWidth 8)))
            have q2 := (((hB7.farAt (g' := wo.heap.size) (by omega) (4 * k) (.int .u8 (wb ((r.getD k 0 + s0.getD k 0).setWidth 8)))).farAt (g' := wo.heap.size) (by omega) (4 * k + 1) (.int .u8 (wb (((r.getD k 0 + s0.getD k 0) >>> 8).setWidth 8)))).farAt (g' := wo.heap.size) (by omega) (4 * k + 2) (.int .u8 (wb (((r.getD k 0 + s0.getD k 0) >>> 16).setWidth 8)))).farAt (g' := wo.heap.size) (by omega) (4 * k + 3) (.int .u8 (wb (((r.getD k 0 + s0.getD k 0) >>> 24).setWidth 8)))
            have q3 := below_setCell (below_setCell (below_setCell (below_setCell hb hsz2 (4 * k) (.int .u8 (wb ((r.getD k 0 + s0.getD k 0).setWidth 8)))) hsz2 (4 * k + 1) (.int .u8 (wb (((r.getD k 0 + s0.getD k 0) >>> 8).setWidth 8)))) hsz2 (4 * k + 2) (.int .u8 (wb (((r.getD k 0 + s0.getD k 0) >>> 16).setWidth 8)))) hsz2 (4 * k + 3) (.int .u8 (wb (((r.getD k 0 + s0.getD k 0) >>> 24).setWidth 8)))
            simp only [List.getD_eq_getElem?_getD] at q0 q1 q2 q3
            first | exact ⟨k + 1, by omega, by go_num, q1, q2, q0, q3⟩ | ((repeat apply Exists.intro); exact ⟨⟨k + 1, by omega, by go_num, q1, q2, q0, q3⟩, rfl⟩)
          case measure => simp [intOf]; omega
        · obtain rfl : k = 16 := by omega
          clear hk hkt
          have HO : Hid ((outK r s0 16).length = 64) := outK_length r s0 16
          rw [← HC.out] at hB8 HO
          go_wp2_with (first | (refine wpList_load_row rfl 70 _ rfl _ rfl 70 _ (0, 0) _ hB8 Try.underlying70 rfl (by rw [encs_size, HO.out]; exact size30) ?_) | (refine wpList_store_row rfl 70 _ _ rfl _ _ rfl rfl 70 _ hB6 (by rw [encs_size, HO.out]; exact size30) (by rw [encs_size, encs_size, HO.out]; rfl) (encs_one _ _) ?_))
          refine bodyPost_ret (results_cell_row rfl _ _ _ _ _ _ _ rfl (hB6.row _) Try.underlying70 rfl (by rw [encs_size, HO.out]; exact size30)) rfl ⟨rfl, below_setRow hb (by omega) _⟩
end Go.Proofs.Ytfamcgmgcchppaa
