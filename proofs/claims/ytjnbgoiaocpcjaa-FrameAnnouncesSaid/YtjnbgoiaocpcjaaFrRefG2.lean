/- frame's reference: GetMessage, GetExchange. -/
import Derived.Test.YtjnbgoiaocpcjaaFrRefG
namespace Go.Proofs.Ytjnbgoiaocpcjaa
open Go.RowKit
theorem over_mid (a z m : List Value) (off : Nat) (ho : a.length = off) (h : m.length = z.length) : over (a ++ z).toArray off m = (a ++ m).toArray := by
  unfold over
  congr 1
  rw [List.toList_toArray, ← ho, List.take_left, h, ← List.length_append, List.drop_length, List.append_nil]
theorem over_head (z c m : List Value) (h : m.length = z.length) : over (z ++ c).toArray 0 m = (m ++ c).toArray := by
  unfold over
  congr 1
  rw [List.toList_toArray, List.take_zero, List.nil_append, Nat.zero_add, h, List.drop_left]
theorem over_msg (k body : List (BitVec 8)) (p n : BitVec 32) (hk : k.length = 32) (hb : body.length = 65) : over (msgL k p n z65).toArray 34 ((encL .u8 body).take 65) = (msgL k p n body).toArray := by
  have e : (encL .u8 body).take 65 = encL .u8 body := by rw [List.take_of_length_le]; rw [encL_length, hb]; exact Nat.le_refl _
  have e2 : (encL .u8 body).length = (encL .u8 z65).length := by rw [encL_length, encL_length, hb]; rfl
  rw [e]
  exact over_mid _ _ _ 34 (hdrL_length _ _ _ hk) e2
set_option maxRecDepth 100000 in
set_option maxHeartbeats 400000 in
theorem rGetMessage_any (b : List (BitVec 8)) (A : Option Addr) (cap : Nat) (w : World) (hR : Rd w .u8 A b) (hl : b.length = 105) (hc : 105 ≤ cap) :
    Calls Try.prog 27 #[.slice A 105 cap] w fun e w' => e = .returned (.agg (msgL (b.take 32) (num32 b 32) (num32 b 36) (b.drop 40)).toArray) ∧ Below w.heap.size w w' := by
  have HL := Lib.hid hl
  have hk32 : (b.take 32).length = 32 := by rw [List.length_take]; omega
  have hb65 : (b.drop 40).length = 65 := by rw [List.length_drop]; omega
  have HB65 := Lib.hid hb65
  have HBU := Lib.hid (build_msgh (b.take 32) (num32 b 32) (num32 b 36) hk32)
  have hHL : (hdrL (b.take 32) (num32 b 32) (num32 b 36)).length = 34 := hdrL_length _ _ _ hk32
  have HO := Lib.hid (over_msg (b.take 32) (b.drop 40) (num32 b 32) (num32 b 36) hk32 hb65)
  have HZ := Lib.hid msg0_length
  have HD0 := Lib.hid (msgL_length (b.take 32) z65 (num32 b 32) (num32 b 36) hk32 (by simp [z65]))
  have HD := Lib.hid (msgL_length (b.take 32) (b.drop 40) (num32 b 32) (num32 b 36) hk32 hb65)
  have HONE0 := Lib.hid (msgL_one (b.take 32) z65 (num32 b 32) (num32 b 36))
  have HONE := Lib.hid (msgL_one (b.take 32) (b.drop 40) (num32 b 32) (num32 b 36))
  have r1 := rd_cut hR 40 65 cap (by omega)
  rw [List.take_of_length_le (by omega)] at r1
  have HG := Lib.hid (fun w' (h : Below w.heap.size w w') => rGetHeader_any b A 105 cap w' (hR.below h) hl hc (by omega))
  have hs1 := fun wx => run_slice_from (P := Try.prog) bytesT A 105 cap 40 .i64 (by omega) (by omega) wx
  rw [show (40 : Int).toNat = 40 from rfl, show 105 - 40 = 65 from rfl] at hs1
  have R1 := Lib.hid r1
  clear hk32 hb65 hl hHL r1 hR
  generalize hH : hdrL (b.take 32) (num32 b 32) (num32 b 36) = H at *
  generalize hM : msgL (b.take 32) (num32 b 32) (num32 b 36) (b.drop 40) = M at *
  generalize hM0 : msgL (b.take 32) (num32 b 32) (num32 b 36) z65 = M0 at *
  clear hH hM hM0
  go_enter Try.func27, Try.ntmps27
  go_wp2_with fail
  have hb0 : Below w.heap.size w (w.alloc (.cells msg0.toArray 32)) := (Below.refl _ _).alloc (Nat.le_refl _) _
  have hB2 := Blk.new w msg0.toArray 32
  refine (HG.out _ hb0).mono ?_
  rintro e w1 ⟨rfl, hb1⟩
  have hC2 := hB2.below hb1 hB2.lt
  replace hb1 := hb0.trans (hb1.mono hb0.size)
  have hsz : w.heap.size < w1.heap.size := hC2.lt
  clear hb0 hB2
  have hB3 := Blk.new w1 msg0.toArray 32
  have hD2 := hC2.alloc (.cells msg0.toArray 32)
  have hb2 := hb1.alloc hb1.size (.cells msg0.toArray 32)
  have hB4 : Blk ((w1.alloc (.cells msg0.toArray 32)).setRow w1.heap.size M0.toArray) w1.heap.size M0.toArray 32 := hB3.row _
  have hb3 := below_setRow hb2 hb1.size M0.toArray
  have hD3 := hD2.farRow (show w.heap.size ≠ w1.heap.size by omega) M0.toArray
  go_wp2_with (first | (refine wpList_build rfl 32 _ rfl (.agg M0.toArray) _ HBU.out (by simp [Act.eval, Act.put]) ?_) | (refine wpList_store_row rfl 32 _ _ rfl _ _ rfl rfl 32 _ hB3 (by rw [List.size_toArray, HD0.out]; exact sizeMsg) (by rw [List.size_toArray, List.size_toArray, HD0.out, HZ.out]) HONE0.out ?_) | fail)
  change Code.wp _ _ _ _ ((w1.alloc (.cells msg0.toArray 32)).setRow w1.heap.size M0.toArray)
  clear hb2 hB3 hD2 hC2 hb1
  generalize (w1.alloc (.cells msg0.toArray 32)).setRow w1.heap.size M0.toArray = W3 at *
  generalize w1.heap.size = g3 at *
  go_simp
  refine mix_start (fun _ => True) (List.range 5) [4] [] [] (by kernel_rfl) (by kernel_rfl) (fun d _ _ _ _ h => by cases d <;> exact h) trivial ?_
  repeat (refine mix_pure rfl rfl (fun K hK => ?_); go_simp; refine hK _ ?_; clear hK K)
  refine mix_eff rfl rfl (fun K hK => ?_)
  refine step_copy_blk rfl _ _ 38 38 5 rfl Try.underlying38 (by kernel_rfl) g3 34 65 65 rfl _ _ hB4.drew (cutA A 40 cap 1) 65 (cap - 40) (encL .u8 (b.drop 40)) (by rw [encL_length, HB65.out]) rfl (R1.out.below hb3).cells (encL_one _ _) (by rw [List.size_toArray, HD0.out]; omega) ?_
  intro w4 hE3 hU
  rw [HO.out] at hE3
  have hE2 := (Blk.drew hD3).upd hU (by omega)
  have hb4 : Below w.heap.size w w4 := hb3.drew.trans (below_upd (w := W3.drew) hU (Nat.le_of_lt hsz) hb3.size)
  refine hK _ _ (fun _ h => h) ?_
  clear hK K
  repeat (refine mix_pure rfl rfl (fun K hK => ?_); go_simp; refine hK _ ?_; clear hK K)
  refine mix_nil ?_
  go_wp2_with (first | (refine wpList_load_row rfl 32 _ rfl _ rfl 32 _ (0, 0) _ hE3 Try.underlying32 rfl (by rw [List.size_toArray, HD.out]; exact sizeMsg) ?_) | (refine wpList_store_row rfl 32 _ _ rfl _ _ rfl rfl 32 _ hE2 (by rw [List.size_toArray, HD.out]; exact sizeMsg) (by rw [List.size_toArray, List.size_toArray, HD.out, HZ.out]) HONE.out ?_) | fail)
  refine bodyPost_ret (v := .agg M.toArray) (results_cell_row rfl _ _ _ _ _ _ _ rfl (hE2.row _) Try.underlying32 rfl (by rw [List.size_toArray, HD.out]; exact sizeMsg)) rfl ⟨rfl, below_setRow hb4 (Nat.le_refl _) _⟩
theorem over_exc1 (b : List (BitVec 8)) (hb : b.length = 146) : over exc0.toArray 0 ((encL .u8 b).take 16) = (excL (b.take 16) z130).toArray := by
  have e : (encL .u8 b).take 16 = encL .u8 (b.take 16) := by simp [encL]
  have e2 : (encL .u8 (b.take 16)).length = (encL .u8 z16).length := by rw [encL_length, encL_length, List.length_take, hb]; rfl
  rw [e]
  exact over_head _ _ _ e2
theorem over_exc2 (drop body : List (BitVec 8)) (hk : drop.length = 16) (hb : body.length = 130) : over (excL drop z130).toArray 16 ((encL .u8 body).take 130) = (excL drop body).toArray := by
  have e : (encL .u8 body).take 130 = encL .u8 body := by rw [List.take_of_length_le]; rw [encL_length, hb]; exact Nat.le_refl _
  have e2 : (encL .u8 body).length = (encL .u8 z130).length := by rw [encL_length, encL_length, hb]; rfl
  rw [e]
  exact over_mid _ _ _ 16 (by rw [encL_length, hk]) e2
set_option maxRecDepth 100000 in
set_option maxHeartbeats 2000000 in
theorem rGetExchange_any (b : List (BitVec 8)) (A : Option Addr) (cap : Nat) (w : World) (hR : Rd w .u8 A b) (hl : b.length = 146) (hc : 146 ≤ cap) :
    Calls Try.prog 28 #[.slice A 146 cap] w fun e w' => e = .returned (.agg (excL (b.take 16) (b.drop 16)).toArray) ∧ Below w.heap.size w w' := by
  have HL := Lib.hid hl
  have hk16 : (b.take 16).length = 16 := by rw [List.length_take]; omega
  have hb65 : (b.drop 16).length = 130 := by rw [List.length_drop]; omega
  have HB65 := Lib.hid hb65
  have HO1 := Lib.hid (over_exc1 b hl)
  have HO2 := Lib.hid (over_exc2 (b.take 16) (b.drop 16) hk16 hb65)
  have HZ := Lib.hid exc0_length
  have HD0 := Lib.hid (excL_length (b.take 16) z130 hk16 (by simp [z130]))
  have HD := Lib.hid (excL_length (b.take 16) (b.drop 16) hk16 hb65)
  have HONE := Lib.hid (excL_one (b.take 16) (b.drop 16))
  have r1 := rd_cut hR 16 130 cap (by omega)
  rw [List.take_of_length_le (by omega)] at r1
  have hs1 := fun wx => run_slice_from (P := Try.prog) bytesT A 146 cap 16 .i64 (by omega) (by omega) wx
  rw [show (16 : Int).toNat = 16 from rfl, show 146 - 16 = 130 from rfl] at hs1
  have R0 := Lib.hid hR
  have R1 := Lib.hid r1
  clear hk16 hb65 hl r1 hR
  generalize hM : excL (b.take 16) (b.drop 16) = M at *
  generalize hM0 : excL (b.take 16) z130 = M0 at *
  clear hM hM0
  go_enter Try.func28, Try.ntmps28
  have hb0 : Below w.heap.size w ((w.alloc (.cells exc0.toArray 37)).alloc (.cells exc0.toArray 37)) := ((Below.refl _ _).alloc (Nat.le_refl _) _).alloc (by simp) _
  have hB2 : Blk ((w.alloc (.cells exc0.toArray 37)).alloc (.cells exc0.toArray 37)) w.heap.size exc0.toArray 37 := (Blk.new _ _ _).alloc _
  have hB3 : Blk ((w.alloc (.cells exc0.toArray 37)).alloc (.cells exc0.toArray 37)) (w.heap.size + 1) exc0.toArray 37 := Blk.new_at _ _ _ _ (by simp)
  go_wp2_with (first | (refine wpList_copy_blk rfl _ _ 38 38 5 rfl Try.underlying38 (by kernel_rfl) (w.heap.size + 1) 0 16 16 rfl _ _ hB3 A _ cap (encL .u8 b) (by rw [encL_length, HL.out]) rfl (R0.out.below hb0).cells (encL_one _ _) (by rw [List.size_toArray, HZ.out]; omega) ?_; intro w1 hC1 hU1) | fail)
  rw [HO1.out] at hC1
  have hB2' := hB2.upd hU1 (by omega)
  have hb1 : Below w.heap.size w w1 := hb0.trans (below_upd hU1 (Nat.le_succ _) hb0.size)
  clear hb0 hB2 hB3 hU1
  refine mix_start (fun _ => True) (List.range 5) [4] [] [] (by kernel_rfl) (by kernel_rfl) (fun d _ _ _ _ h => by cases d <;> exact h) trivial ?_
  repeat (refine mix_pure rfl rfl (fun K hK => ?_); go_simp; refine hK _ ?_; clear hK K)
  refine mix_eff rfl rfl (fun K hK => ?_)
  refine step_copy_blk rfl _ _ 38 38 5 rfl Try.underlying38 (by kernel_rfl) (w.heap.size + 1) 16 130 130 rfl _ _ hC1.drew (cutA A 16 cap 1) 130 (cap - 16) (encL .u8 (b.drop 16)) (by rw [encL_length, HB65.out]) rfl (R1.out.below hb1).cells (encL_one _ _) (by rw [List.size_toArray, HD0.out]; omega) ?_
  intro w4 hE3 hU
  rw [HO2.out] at hE3
  have hE2 := (Blk.drew hB2').upd hU (by omega)
  have hb4 : Below w.heap.size w w4 := hb1.drew.trans (below_upd (w := w1.drew) hU (Nat.le_succ _) hb1.size)
  refine hK _ _ (fun _ h => h) ?_
  clear hK K
  repeat (refine mix_pure rfl rfl (fun K hK => ?_); go_simp; refine hK _ ?_; clear hK K)
  refine mix_nil ?_
  go_wp2_with (first | (refine wpList_load_row rfl 37 _ rfl _ rfl 37 _ (0, 0) _ hE3 Try.underlying37 rfl (by rw [List.size_toArray, HD.out]; exact sizeExc) ?_) | (refine wpList_store_row rfl 37 _ _ rfl _ _ rfl rfl 37 _ hE2 (by rw [List.size_toArray, HD.out]; exact sizeExc) (by rw [List.size_toArray, List.size_toArray, HD.out, HZ.out]) HONE.out ?_) | fail)
  refine bodyPost_ret (v := .agg M.toArray) (results_cell_row rfl _ _ _ _ _ _ _ rfl (hE2.row _) Try.underlying37 rfl (by rw [List.size_toArray, HD.out]; exact sizeExc)) rfl ⟨rfl, below_setRow hb4 (Nat.le_refl _) _⟩
end Go.Proofs.Ytjnbgoiaocpcjaa
