/- frame's reference: GetHeader, GetMessage, GetExchange. -/
import Derived.Test.YtjnbgoiaocpcjaaFrRefM
namespace Go.Proofs.Ytjnbgoiaocpcjaa
open Go.RowKit
theorem rnum14_v {w : World} {v : Value} {l : List (BitVec 8)} (h : Arg w v l) (hlen : l.length ≤ 140737488355328) :
    Calls Try.prog 58 #[v] w fun e w' => e = .returned (.int .u64 (wb (num l))) ∧ w = w' := by
  obtain ⟨A, c, rfl, hc, hr⟩ := h
  exact rnum14_any l A c w hr hlen
theorem num_num32 (b : List (BitVec 8)) (o : Nat) : (num ((b.drop o).take 4)).setWidth 32 = num32 b o := by
  unfold num32 get64
  rw [List.take_of_length_le (l := (b.drop o).take 4) (by rw [List.length_take]; omega)]
theorem conv64_32c (x : BitVec 64) : IntKind.u32.wrap (wb x) = wb (x.setWidth 32) := conv_u32 x
attribute [local go_sem] conv64_32c
theorem over_hdr (b : List (BitVec 8)) (h : 32 ≤ b.length) : over (hdrL z32 0 0).toArray 0 ((encL .u8 b).take 32) = (hdrL (b.take 32) 0 0).toArray := by
  have e : (encL .u8 b).take 32 = encL .u8 (b.take 32) := by simp [encL]
  have hl : (encL .u8 (b.take 32)).length = (encL .u8 z32).length := by rw [encL_length, encL_length, List.length_take, Nat.min_eq_left h]; rfl
  rw [e, over]
  congr 1
  rw [List.take_zero, List.nil_append, Nat.zero_add, List.toList_toArray, hl, hdrL, List.drop_left]
  rfl
theorem set_hdr1 (k : List (BitVec 8)) (p : BitVec 32) (h : k.length = 32) : (hdrL k 0 0).toArray.setIfInBounds 32 (.int .u32 (wb p)) = (hdrL k p 0).toArray := by
  apply Array.ext'
  simp [hdrL, encL_length, h]
theorem set_hdr2 (k : List (BitVec 8)) (p n : BitVec 32) (h : k.length = 32) : (hdrL k p 0).toArray.setIfInBounds 33 (.int .u32 (wb n)) = (hdrL k p n).toArray := by
  apply Array.ext'
  simp [hdrL, encL_length, h]
set_option maxRecDepth 100000 in
set_option maxHeartbeats 2000000 in
theorem rGetHeader_any (b : List (BitVec 8)) (A : Option Addr) (len cap : Nat) (w : World) (hR : Rd w .u8 A b) (hl : b.length = len) (hc : len ≤ cap) (hlen : 40 ≤ len) :
    Calls Try.prog 26 #[.slice A len cap] w fun e w' => e = .returned (.agg (hdrL (b.take 32) (num32 b 32) (num32 b 36)).toArray) ∧ Below w.heap.size w w' := by
  have HL := Lib.hid hl
  have hk32 : (b.take 32).length = 32 := by rw [List.length_take]; omega
  have HO := Lib.hid (over_hdr b (by omega))
  have H1 := Lib.hid (set_hdr1 (b.take 32) (num32 b 32) hk32)
  have H2 := Lib.hid (set_hdr2 (b.take 32) (num32 b 32) (num32 b 36) hk32)
  have HZ := Lib.hid (hdrL_length z32 0 0 (by simp [z32]))
  have HD := Lib.hid (hdrL_length (b.take 32) (num32 b 32) (num32 b 36) hk32)
  have HD1 := Lib.hid (hdrL_length (b.take 32) 0 0 hk32)
  have HD2 := Lib.hid (hdrL_length (b.take 32) (num32 b 32) 0 hk32)
  have HONE := Lib.hid (hdrL_one (b.take 32) (num32 b 32) (num32 b 36))
  have hn1 := num_num32 b 32
  have hn2 := num_num32 b 36
  have l1 : ((b.drop 32).take 4).length = 4 := by rw [List.length_take, List.length_drop]; omega
  have l2 : ((b.drop 36).take 4).length = 4 := by rw [List.length_take, List.length_drop]; omega
  have r1 := rd_cut hR 32 4 cap (by omega)
  have r2 := rd_cut hR 36 4 cap (by omega)
  have hs1 := fun wx => run_slice_row (P := Try.prog) bytesT A len cap 32 36 .i64 .i64 (by omega) (by omega) (by omega) wx
  have hs2 := fun wx => run_slice_row (P := Try.prog) bytesT A len cap 36 40 .i64 .i64 (by omega) (by omega) (by omega) wx
  rw [show (32 : Int).toNat = 32 from rfl, show (36 : Int).toNat = 36 from rfl] at hs1
  rw [show (40 : Int).toNat = 40 from rfl, show (36 : Int).toNat = 36 from rfl] at hs2
  have L1 := Lib.hid l1
  have HK32 := Lib.hid hk32
  have L2 := Lib.hid l2
  have N1 := Lib.hid hn1
  have N2 := Lib.hid hn2
  clear hk32 hl l1 l2 hn1 hn2
  have RB := Lib.hid hR
  have R1 := Lib.hid r1
  have R2 := Lib.hid r2
  clear hR r1 r2
  generalize hH1 : hdrL (b.take 32) (num32 b 32) 0 = D1 at *
  generalize hH : hdrL (b.take 32) (num32 b 32) (num32 b 36) = D2 at *
  generalize hH0 : hdrL (b.take 32) 0 0 = D0 at *
  generalize num32 b 32 = p at *
  generalize num32 b 36 = n at *
  have hcE : Hid (encL .u8 b = encL .u8 b) := rfl
  clear hH hcE
  go_enter Try.func26, Try.ntmps26
  have hb0 : Below w.heap.size w ((w.alloc (.cells (hdrL z32 0 0).toArray 29)).alloc (.cells (hdrL z32 0 0).toArray 29)) := ((Below.refl _ _).alloc (Nat.le_refl _) _).alloc (by simp) _
  have hB2 : Blk ((w.alloc (.cells (hdrL z32 0 0).toArray 29)).alloc (.cells (hdrL z32 0 0).toArray 29)) w.heap.size (hdrL z32 0 0).toArray 29 := (Blk.new _ _ _).alloc _
  have hB3 : Blk ((w.alloc (.cells (hdrL z32 0 0).toArray 29)).alloc (.cells (hdrL z32 0 0).toArray 29)) (w.heap.size + 1) (hdrL z32 0 0).toArray 29 := Blk.new_at _ _ _ _ (by simp)
  go_wp2_with (first | (refine wpList_copy_blk rfl _ _ 38 38 5 rfl Try.underlying38 (by kernel_rfl) (w.heap.size + 1) 0 32 32 rfl _ _ hB3 A _ cap (encL .u8 b) (by rw [encL_length, HL.out]) rfl (RB.out.below hb0).cells (encL_one _ _) (by rw [List.size_toArray, HZ.out]; omega) ?_; intro w1 hC1 hU1) | fail)
  rw [HO.out] at hC1
  have hB2' := hB2.upd hU1 (by omega)
  have hb1 : Below w.heap.size w w1 := hb0.trans (below_upd hU1 (Nat.le_succ _) hb0.size)
  have hsz : w.heap.size + 1 < w1.heap.size := hC1.lt
  clear hb0 hB2 hB3 hU1
  have hf1 : w1.frozen? ⟨w.heap.size + 1, 32, none⟩ = false := hC1.frozen 32
  have hq1 : w1.cell? ⟨w.heap.size + 1, 32, none⟩ = some (.int .u32 0) := hC1.cellSeg (encL .u8 (b.take 32)) [.int .u32 (wb (0 : BitVec 32))] (by rw [← hH0]; rfl) (by rw [encL_length, HK32.out])
  have hC2 := hC1.set 32 (.int .u32 (wb p))
  rw [H1.out] at hC2
  have hf2 : (w1.setCell ⟨w.heap.size + 1, 32, none⟩ (.int .u32 (wb p))).frozen? ⟨w.heap.size + 1, 33, none⟩ = false := hC2.frozen 33
  have hq2 : (w1.setCell ⟨w.heap.size + 1, 32, none⟩ (.int .u32 (wb p))).cell? ⟨w.heap.size + 1, 33, none⟩ = some (.int .u32 0) := hC2.cellSeg (encL .u8 (b.take 32) ++ [.int .u32 (wb p)]) [] (by rw [← hH1]; simp [hdrL]; rfl) (by rw [List.length_append, encL_length, HK32.out]; rfl)
  have hC3 := hC2.set 33 (.int .u32 (wb n))
  rw [H2.out] at hC3
  refine mix_start (fun _ => True) [0, 1, 4, 5, 2, 3, 6, 7, 8, 9, 10, 11] [2, 6, 9, 11] [] [] (by kernel_rfl) (by kernel_rfl) (fun d _ _ _ _ h => by cases d <;> exact h) trivial ?_
  repeat (refine mix_pure rfl rfl (fun K hK => ?_); go_simp; refine hK _ ?_; clear hK K)
  refine mix_eff rfl rfl (fun K hK => ?_)
  go_simp
  refine (rnum14_v (arg_of (w := w1.drew) (R1.out.below hb1.drew) L1.out (by omega)) (by rw [L1.out]; omega)).mono ?_
  rintro e w2 ⟨rfl, rfl⟩
  refine hK _ _ (fun _ h => h) ?_
  clear hK K
  repeat (refine mix_pure rfl rfl (fun K hK => ?_); go_simp; refine hK _ ?_; clear hK K)
  rw [N1.out]
  refine mix_eff rfl rfl (fun K hK => ?_)
  go_simp
  refine (rnum14_v (arg_of (w := w1.drew) (R2.out.below hb1.drew) L2.out (by omega)) (by rw [L2.out]; omega)).mono ?_
  rintro e w2 ⟨rfl, rfl⟩
  refine hK _ _ (fun _ h => h) ?_
  clear hK K
  repeat (refine mix_pure rfl rfl (fun K hK => ?_); go_simp; refine hK _ ?_; clear hK K)
  rw [N2.out]
  refine mix_eff rfl rfl (fun K hK => ?_)
  go_simp
  refine hK _ _ (fun _ h => h) ?_
  clear hK K
  repeat (refine mix_pure rfl rfl (fun K hK => ?_); go_simp; refine hK _ ?_; clear hK K)
  refine mix_eff rfl rfl (fun K hK => ?_)
  go_simp
  refine hK _ _ (fun _ h => h) ?_
  clear hK K
  repeat (refine mix_pure rfl rfl (fun K hK => ?_); go_simp; refine hK _ ?_; clear hK K)
  refine mix_nil ?_
  have hC4 : Blk ((w1.setCell ⟨w.heap.size + 1, 32, none⟩ (.int .u32 (wb p))).setCell ⟨w.heap.size + 1, 33, none⟩ (.int .u32 (wb n))).drew (w.heap.size + 1) D2.toArray 29 := hC3
  have hB4 : Blk ((w1.setCell ⟨w.heap.size + 1, 32, none⟩ (.int .u32 (wb p))).setCell ⟨w.heap.size + 1, 33, none⟩ (.int .u32 (wb n))).drew w.heap.size (hdrL z32 0 0).toArray 29 := (hB2'.farAt (by omega) 32 _).farAt (by omega) 33 _
  have hb4 := (below_setCell (below_setCell hb1 (Nat.le_succ _) 32 (.int .u32 (wb p))) (Nat.le_succ _) 33 (.int .u32 (wb n))).drew
  go_wp2_with (first | (refine wpList_load_row rfl 29 _ rfl _ rfl 29 _ (0, 0) _ hC4 Try.underlying29 rfl (by rw [List.size_toArray, HD.out]; exact sizeHdr) ?_) | (refine wpList_store_row rfl 29 _ _ rfl _ _ rfl rfl 29 _ hB4 (by rw [List.size_toArray, HD.out]; exact sizeHdr) (by rw [List.size_toArray, List.size_toArray, HD.out, HZ.out]) HONE.out ?_) | fail)
  refine bodyPost_ret (v := .agg D2.toArray) (results_cell_row rfl _ _ _ _ _ _ _ rfl (hB4.row _) Try.underlying29 rfl (by rw [List.size_toArray, HD.out]; exact sizeHdr)) rfl ⟨rfl, below_setRow hb4 (Nat.le_refl _) _⟩
end Go.Proofs.Ytjnbgoiaocpcjaa
