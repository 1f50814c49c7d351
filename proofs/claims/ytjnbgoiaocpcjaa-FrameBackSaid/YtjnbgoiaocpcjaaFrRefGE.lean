/- frame's reference: GetEnvelope (printed by genrge.py). -/
import Derived.Test.YtjnbgoiaocpcjaaFrRefE
namespace Go.Proofs.Ytjnbgoiaocpcjaa
open Go.RowKit
theorem conv64_32g (x : BitVec 64) : IntKind.u32.wrap (wb x) = wb (x.setWidth 32) := conv_u32 x
theorem conv8_int (x : BitVec 8) : IntKind.i64.wrap (wb x) = wb x := IntWalk.i64_in _ (by have h := x.isLt; unfold wb; omega)
attribute [local go_sem] conv64_32g conv8_int
theorem over_env (kd : Int) (a s : BitVec 32) (body : List (BitVec 8)) (hb : body.length = 105) : over (envL kd a s z105).toArray 3 ((encL .u8 body).take 105) = (envL kd a s body).toArray := by
  have e : (encL .u8 body).take 105 = encL .u8 body := by rw [List.take_of_length_le]; rw [encL_length, hb]; exact Nat.le_refl _
  have e2 : (encL .u8 body).length = (encL .u8 z105).length := by rw [encL_length, encL_length, hb]; rfl
  rw [e]
  exact over_mid _ _ _ 3 rfl e2
set_option maxRecDepth 100000 in
theorem set_env (kd : Int) (a s : BitVec 32) : ((Try.zeroCells68.setIfInBounds 0 (.int .i64 kd)).setIfInBounds 1 (.int .u32 (wb a))).setIfInBounds 2 (.int .u32 (wb s)) = (envL kd a s z105).toArray := by kernel_rfl
set_option maxRecDepth 100000 in
set_option maxHeartbeats 4000000 in
theorem rGetEnvelope_any (b : List (BitVec 8)) (A : Option Addr) (cap : Nat) (w : World) (hR : Rd w .u8 A b) (hl : b.length = 114) (hc : 114 ≤ cap) :
    Calls Try.prog 39 #[.slice A 114 cap] w fun e w' => e = .returned (.agg (envL (wb (b.getD 0 0)) (num32 b 1) (num32 b 5) (b.drop 9)).toArray) ∧ Below w.heap.size w w' := by
  have hb105 : (b.drop 9).length = 105 := by rw [List.length_drop]; omega
  have HB := Lib.hid hb105
  have HO := Lib.hid (over_env (wb (b.getD 0 0)) (num32 b 1) (num32 b 5) (b.drop 9) hb105)
  have HBU := Lib.hid (set_env (wb (b.getD 0 0)) (num32 b 1) (num32 b 5))
  have HZ := Lib.hid env0_length
  have HD0 := Lib.hid (envL_length (wb (b.getD 0 0)) (num32 b 1) (num32 b 5) z105 (by simp [z105]))
  have HD := Lib.hid (envL_length (wb (b.getD 0 0)) (num32 b 1) (num32 b 5) (b.drop 9) hb105)
  have HONE0 := Lib.hid (envL_one (wb (b.getD 0 0)) (num32 b 1) (num32 b 5) z105)
  have HONE := Lib.hid (envL_one (wb (b.getD 0 0)) (num32 b 1) (num32 b 5) (b.drop 9))
  have N1 := Lib.hid (num_num32 b 1)
  have N2 := Lib.hid (num_num32 b 5)
  have l1 : ((b.drop 1).take 4).length = 4 := by rw [List.length_take, List.length_drop]; omega
  have l2 : ((b.drop 5).take 4).length = 4 := by rw [List.length_take, List.length_drop]; omega
  have L1 := Lib.hid l1
  have L2 := Lib.hid l2
  have R1 := Lib.hid (rd_cut hR 1 4 cap (by omega))
  have R2 := Lib.hid (rd_cut hR 5 4 cap (by omega))
  have r9 := rd_cut hR 9 105 cap (by omega)
  rw [List.take_of_length_le (by omega)] at r9
  have R9 := Lib.hid r9
  have hs1 := fun wx => run_slice_row (P := Try.prog) bytesT A 114 cap 1 5 .i64 .i64 (by omega) (by omega) (by omega) wx
  have hs2 := fun wx => run_slice_row (P := Try.prog) bytesT A 114 cap 5 9 .i64 .i64 (by omega) (by omega) (by omega) wx
  have hs3 := fun wx => run_slice_from (P := Try.prog) bytesT A 114 cap 9 .i64 (by omega) (by omega) wx
  rw [show (1 : Int).toNat = 1 from rfl, show (5 : Int).toNat = 5 from rfl, show 5 - 1 = 4 from rfl] at hs1
  rw [show (5 : Int).toNat = 5 from rfl, show (9 : Int).toNat = 9 from rfl, show 9 - 5 = 4 from rfl] at hs2
  rw [show (9 : Int).toNat = 9 from rfl, show 114 - 9 = 105 from rfl] at hs3
  obtain ⟨g, off, rfl, hcell⟩ := hR 0 (by omega)
  rw [Nat.add_zero] at hcell
  clear hb105 l1 l2 r9 hl hR
  generalize b.getD 0 0 = kb at *
  generalize num32 b 1 = p at *
  generalize num32 b 5 = n at *
  generalize hM : envL (wb kb) p n (b.drop 9) = M at *
  generalize hM0 : envL (wb kb) p n z105 = M0 at *
  clear hM hM0
  generalize (b.drop 1).take 4 = B1 at *
  generalize (b.drop 5).take 4 = B2 at *
  generalize b.drop 9 = B9 at *
  go_enter Try.func39, Try.ntmps39
  go_wp2_with fail
  have hb0 : Below w.heap.size w (w.alloc (.cells env0.toArray 68)) := (Below.refl _ _).alloc (Nat.le_refl _) _
  have hB2 := Blk.new w env0.toArray 68
  have hw : Below w.heap.size w (w.alloc (.cells env0.toArray 68)).drew := hb0.drew
  refine mix_plan (fun w' => Below w.heap.size w w') (.step 0 (.step 1 (.step 2 (.step 3 (.step 4 (.step 5 (.step 8 (.step 9 (.fork 6 13 (.step 7 (.fork 10 13 (.step 11 (.step 12 (.step 13 (.step 14 (.done))))) (.step 10 (.step 11 (.step 12 (.step 14 (.done))))))) (.step 6 (.step 7 (.step 10 (.step 11 (.step 12 (.step 14 (.done))))))))))))))))  [6, 10, 13, 14] [2] [] (by kernel_rfl) (by kernel_rfl) (fun d _ _ _ _ h => by cases d <;> exact h) hb0.drew ?_
  repeat (refine mix_pure rfl rfl (fun K hK => ?_); go_simp; refine hK _ ?_; clear hK K)
  refine mix_read (.int .u8 (wb kb)) rfl rfl rfl rfl (fun w' hS => ?_) ?_
  · have hc' := below_cell hS hcell
    go_simp
  repeat (refine mix_pure rfl rfl (fun K hK => ?_); go_simp; refine hK _ ?_; clear hK K)
  replace hB2 : Blk (w.alloc (.cells Try.zeroCells68 68)).drew w.heap.size env0.toArray 68 := hB2
  replace hw : Below w.heap.size w (w.alloc (.cells Try.zeroCells68 68)).drew := hw
  clear hb0
  generalize hX : (w.alloc (.cells Try.zeroCells68 68)).drew = w0 at *
  refine mix_fork rfl rfl (fun K hK => ?_) (fun K hK => ?_)
  · go_simp
    refine (rnum14_v (arg_of (R1.out.below hw) L1.out (by omega)) (by rw [L1.out]; omega)).mono ?_
    rintro e w'' ⟨rfl, rfl⟩
    refine hK _ _ (fun _ h => h) ?_
    clear hK K
    repeat (refine mix_pure rfl rfl (fun K hK => ?_); go_simp; refine hK _ ?_; clear hK K)
    rw [N1.out]
    refine mix_fork rfl rfl (fun K hK => ?_) (fun K hK => ?_)
    · go_simp
      refine (rnum14_v (arg_of (R2.out.below hw) L2.out (by omega)) (by rw [L2.out]; omega)).mono ?_
      rintro e w'' ⟨rfl, rfl⟩
      refine hK _ _ (fun _ h => h) ?_
      clear hK K
      repeat (refine mix_pure rfl rfl (fun K hK => ?_); go_simp; refine hK _ ?_; clear hK K)
      rw [N2.out]
      rw [HBU.out]
      refine mix_eff rfl rfl (fun K hK => ?_)
      go_simp
      have hB3 := Blk.new w0 env0.toArray 68
      have hn : Below w.heap.size w (w0.alloc (.cells env0.toArray 68)) := hw.alloc hw.size _
      have hg : w.heap.size < w0.heap.size := hB2.lt
      replace hB2 := hB2.alloc (.cells env0.toArray 68)
      refine hK _ (w0.alloc (.cells env0.toArray 68)) (fun _ _ => hn) ?_
      clear hK K hw
      have hw := hn
      clear hn
      generalize w0.alloc (.cells env0.toArray 68) = w1 at *
      generalize w0.heap.size = g3 at *
      repeat (refine mix_pure rfl rfl (fun K hK => ?_); go_simp; refine hK _ ?_; clear hK K)
      refine mix_eff rfl rfl (fun K hK => ?_)
      refine step_store_row rfl 68 _ _ rfl _ _ rfl rfl 68 _ hB3 (by rw [List.size_toArray, HD0.out]; exact sizeEnv) (by rw [List.size_toArray, List.size_toArray, HD0.out, HZ.out]) HONE0.out ?_
      have hn := below_setRow hw (Nat.le_of_lt hg) M0.toArray
      have hC3 := hB3.row M0.toArray
      have hC2 := hB2.farRow (show w.heap.size ≠ g3 by omega) M0.toArray
      refine hK _ _ (fun _ _ => hn) ?_
      clear hK K hw hB3 hB2
      have hw := hn
      clear hn
      generalize w1.setRow g3 M0.toArray = w2 at *
      repeat (refine mix_pure rfl rfl (fun K hK => ?_); go_simp; refine hK _ ?_; clear hK K)
      refine mix_nil ?_
      go_wp2_with fail
      refine mix_start (fun _ => True) (List.range 5) [4] [] [] (by kernel_rfl) (by kernel_rfl) (fun d _ _ _ _ h => by cases d <;> exact h) trivial ?_
      repeat (refine mix_pure rfl rfl (fun K hK => ?_); go_simp; refine hK _ ?_; clear hK K)
      refine mix_eff rfl rfl (fun K hK => ?_)
      refine step_copy_blk rfl _ _ 38 38 5 rfl Try.underlying38 (by kernel_rfl) g3 3 105 105 rfl _ _ hC3.drew (cutA (some ⟨g, off, none⟩) 9 cap 1) 105 (cap - 9) (encL .u8 B9) (by rw [encL_length, HB.out]) rfl (R9.out.below hw).cells (encL_one _ _) (by rw [List.size_toArray, HD0.out]; omega) ?_
      intro w4 hE3 hU
      rw [HO.out] at hE3
      have hE2 := (Blk.drew hC2).upd hU (by omega)
      have hb4 : Below w.heap.size w w4 := hw.drew.trans (below_upd (w := w2.drew) hU (Nat.le_of_lt hg) hw.size)
      refine hK _ _ (fun _ h => h) ?_
      clear hK K
      repeat (refine mix_pure rfl rfl (fun K hK => ?_); go_simp; refine hK _ ?_; clear hK K)
      refine mix_nil ?_
      go_wp2_with (first | (refine wpList_load_row rfl 68 _ rfl _ rfl 68 _ (0, 0) _ hE3 Try.underlying68 rfl (by rw [List.size_toArray, HD.out]; exact sizeEnv) ?_) | (refine wpList_store_row rfl 68 _ _ rfl _ _ rfl rfl 68 _ hE2 (by rw [List.size_toArray, HD.out]; exact sizeEnv) (by rw [List.size_toArray, List.size_toArray, HD.out, HZ.out]) HONE.out ?_) | fail)
      refine bodyPost_ret (v := .agg M.toArray) (results_cell_row rfl _ _ _ _ _ _ _ rfl (hE2.row _) Try.underlying68 rfl (by rw [List.size_toArray, HD.out]; exact sizeEnv)) rfl ⟨rfl, below_setRow hb4 (Nat.le_refl _) _⟩
    · go_simp
      have hB3 := Blk.new w0 env0.toArray 68
      have hn : Below w.heap.size w (w0.alloc (.cells env0.toArray 68)) := hw.alloc hw.size _
      have hg : w.heap.size < w0.heap.size := hB2.lt
      replace hB2 := hB2.alloc (.cells env0.toArray 68)
      refine hK _ (w0.alloc (.cells env0.toArray 68)) (fun _ _ => hn) ?_
      clear hK K hw
      have hw := hn
      clear hn
      generalize w0.alloc (.cells env0.toArray 68) = w1 at *
      generalize w0.heap.size = g3 at *
      repeat (refine mix_pure rfl rfl (fun K hK => ?_); go_simp; refine hK _ ?_; clear hK K)
      refine mix_eff rfl rfl (fun K hK => ?_)
      go_simp
      refine (rnum14_v (arg_of (R2.out.below hw) L2.out (by omega)) (by rw [L2.out]; omega)).mono ?_
      rintro e w'' ⟨rfl, rfl⟩
      refine hK _ _ (fun _ h => h) ?_
      clear hK K
      repeat (refine mix_pure rfl rfl (fun K hK => ?_); go_simp; refine hK _ ?_; clear hK K)
      rw [N2.out]
      rw [HBU.out]
      refine mix_eff rfl rfl (fun K hK => ?_)
      refine step_store_row rfl 68 _ _ rfl _ _ rfl rfl 68 _ hB3 (by rw [List.size_toArray, HD0.out]; exact sizeEnv) (by rw [List.size_toArray, List.size_toArray, HD0.out, HZ.out]) HONE0.out ?_
      have hn := below_setRow hw (Nat.le_of_lt hg) M0.toArray
      have hC3 := hB3.row M0.toArray
      have hC2 := hB2.farRow (show w.heap.size ≠ g3 by omega) M0.toArray
      refine hK _ _ (fun _ _ => hn) ?_
      clear hK K hw hB3 hB2
      have hw := hn
      clear hn
      generalize w1.setRow g3 M0.toArray = w2 at *
      repeat (refine mix_pure rfl rfl (fun K hK => ?_); go_simp; refine hK _ ?_; clear hK K)
      refine mix_nil ?_
      go_wp2_with fail
      refine mix_start (fun _ => True) (List.range 5) [4] [] [] (by kernel_rfl) (by kernel_rfl) (fun d _ _ _ _ h => by cases d <;> exact h) trivial ?_
      repeat (refine mix_pure rfl rfl (fun K hK => ?_); go_simp; refine hK _ ?_; clear hK K)
      refine mix_eff rfl rfl (fun K hK => ?_)
      refine step_copy_blk rfl _ _ 38 38 5 rfl Try.underlying38 (by kernel_rfl) g3 3 105 105 rfl _ _ hC3.drew (cutA (some ⟨g, off, none⟩) 9 cap 1) 105 (cap - 9) (encL .u8 B9) (by rw [encL_length, HB.out]) rfl (R9.out.below hw).cells (encL_one _ _) (by rw [List.size_toArray, HD0.out]; omega) ?_
      intro w4 hE3 hU
      rw [HO.out] at hE3
      have hE2 := (Blk.drew hC2).upd hU (by omega)
      have hb4 : Below w.heap.size w w4 := hw.drew.trans (below_upd (w := w2.drew) hU (Nat.le_of_lt hg) hw.size)
      refine hK _ _ (fun _ h => h) ?_
      clear hK K
      repeat (refine mix_pure rfl rfl (fun K hK => ?_); go_simp; refine hK _ ?_; clear hK K)
      refine mix_nil ?_
      go_wp2_with (first | (refine wpList_load_row rfl 68 _ rfl _ rfl 68 _ (0, 0) _ hE3 Try.underlying68 rfl (by rw [List.size_toArray, HD.out]; exact sizeEnv) ?_) | (refine wpList_store_row rfl 68 _ _ rfl _ _ rfl rfl 68 _ hE2 (by rw [List.size_toArray, HD.out]; exact sizeEnv) (by rw [List.size_toArray, List.size_toArray, HD.out, HZ.out]) HONE.out ?_) | fail)
      refine bodyPost_ret (v := .agg M.toArray) (results_cell_row rfl _ _ _ _ _ _ _ rfl (hE2.row _) Try.underlying68 rfl (by rw [List.size_toArray, HD.out]; exact sizeEnv)) rfl ⟨rfl, below_setRow hb4 (Nat.le_refl _) _⟩
  · go_simp
    have hB3 := Blk.new w0 env0.toArray 68
    have hn : Below w.heap.size w (w0.alloc (.cells env0.toArray 68)) := hw.alloc hw.size _
    have hg : w.heap.size < w0.heap.size := hB2.lt
    replace hB2 := hB2.alloc (.cells env0.toArray 68)
    refine hK _ (w0.alloc (.cells env0.toArray 68)) (fun _ _ => hn) ?_
    clear hK K hw
    have hw := hn
    clear hn
    generalize w0.alloc (.cells env0.toArray 68) = w1 at *
    generalize w0.heap.size = g3 at *
    repeat (refine mix_pure rfl rfl (fun K hK => ?_); go_simp; refine hK _ ?_; clear hK K)
    refine mix_eff rfl rfl (fun K hK => ?_)
    go_simp
    refine (rnum14_v (arg_of (R1.out.below hw) L1.out (by omega)) (by rw [L1.out]; omega)).mono ?_
    rintro e w'' ⟨rfl, rfl⟩
    refine hK _ _ (fun _ h => h) ?_
    clear hK K
    repeat (refine mix_pure rfl rfl (fun K hK => ?_); go_simp; refine hK _ ?_; clear hK K)
    rw [N1.out]
    refine mix_eff rfl rfl (fun K hK => ?_)
    go_simp
    refine (rnum14_v (arg_of (R2.out.below hw) L2.out (by omega)) (by rw [L2.out]; omega)).mono ?_
    rintro e w'' ⟨rfl, rfl⟩
    refine hK _ _ (fun _ h => h) ?_
    clear hK K
    repeat (refine mix_pure rfl rfl (fun K hK => ?_); go_simp; refine hK _ ?_; clear hK K)
    rw [N2.out]
    rw [HBU.out]
    refine mix_eff rfl rfl (fun K hK => ?_)
    refine step_store_row rfl 68 _ _ rfl _ _ rfl rfl 68 _ hB3 (by rw [List.size_toArray, HD0.out]; exact sizeEnv) (by rw [List.size_toArray, List.size_toArray, HD0.out, HZ.out]) HONE0.out ?_
    have hn := below_setRow hw (Nat.le_of_lt hg) M0.toArray
    have hC3 := hB3.row M0.toArray
    have hC2 := hB2.farRow (show w.heap.size ≠ g3 by omega) M0.toArray
    refine hK _ _ (fun _ _ => hn) ?_
    clear hK K hw hB3 hB2
    have hw := hn
    clear hn
    generalize w1.setRow g3 M0.toArray = w2 at *
    repeat (refine mix_pure rfl rfl (fun K hK => ?_); go_simp; refine hK _ ?_; clear hK K)
    refine mix_nil ?_
    go_wp2_with fail
    refine mix_start (fun _ => True) (List.range 5) [4] [] [] (by kernel_rfl) (by kernel_rfl) (fun d _ _ _ _ h => by cases d <;> exact h) trivial ?_
    repeat (refine mix_pure rfl rfl (fun K hK => ?_); go_simp; refine hK _ ?_; clear hK K)
    refine mix_eff rfl rfl (fun K hK => ?_)
    refine step_copy_blk rfl _ _ 38 38 5 rfl Try.underlying38 (by kernel_rfl) g3 3 105 105 rfl _ _ hC3.drew (cutA (some ⟨g, off, none⟩) 9 cap 1) 105 (cap - 9) (encL .u8 B9) (by rw [encL_length, HB.out]) rfl (R9.out.below hw).cells (encL_one _ _) (by rw [List.size_toArray, HD0.out]; omega) ?_
    intro w4 hE3 hU
    rw [HO.out] at hE3
    have hE2 := (Blk.drew hC2).upd hU (by omega)
    have hb4 : Below w.heap.size w w4 := hw.drew.trans (below_upd (w := w2.drew) hU (Nat.le_of_lt hg) hw.size)
    refine hK _ _ (fun _ h => h) ?_
    clear hK K
    repeat (refine mix_pure rfl rfl (fun K hK => ?_); go_simp; refine hK _ ?_; clear hK K)
    refine mix_nil ?_
    go_wp2_with (first | (refine wpList_load_row rfl 68 _ rfl _ rfl 68 _ (0, 0) _ hE3 Try.underlying68 rfl (by rw [List.size_toArray, HD.out]; exact sizeEnv) ?_) | (refine wpList_store_row rfl 68 _ _ rfl _ _ rfl rfl 68 _ hE2 (by rw [List.size_toArray, HD.out]; exact sizeEnv) (by rw [List.size_toArray, List.size_toArray, HD.out, HZ.out]) HONE.out ?_) | fail)
    refine bodyPost_ret (v := .agg M.toArray) (results_cell_row rfl _ _ _ _ _ _ _ rfl (hE2.row _) Try.underlying68 rfl (by rw [List.size_toArray, HD.out]; exact sizeEnv)) rfl ⟨rfl, below_setRow hb4 (Nat.le_refl _) _⟩
end Go.Proofs.Ytjnbgoiaocpcjaa
