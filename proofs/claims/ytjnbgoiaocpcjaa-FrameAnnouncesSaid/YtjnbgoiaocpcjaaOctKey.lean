/- octet's reader: Key; a reader that is not there. -/
import Derived.Test.YtjnbgoiaocpcjaaOctRaw
namespace Go.Proofs.Ytjnbgoiaocpcjaa
open Go.RowKit
theorem sizeKey : (Try.prog.info? 26).map (·.size) = some 32 := by kernel_rfl
/-- The key of what was taken. -/
def keyOf (l : List (BitVec 8)) : List (BitVec 8) := overL (List.replicate 32 0) 0 (l.take 32)
theorem keyOf_length (l : List (BitVec 8)) : (keyOf l).length = 32 := by unfold keyOf; rw [overL_length _ _ _ (by simp; omega)]; simp
theorem keyOf_nil : keyOf [] = List.replicate 32 0 := rfl
theorem keyOf_all (l : List (BitVec 8)) (h : l.length = 32) : keyOf l = l := by
  unfold keyOf
  rw [List.take_of_length_le (by omega), overL_all _ _ (by simp [h])]
def KeyD (w : World) (g : Nat) (A : Option Addr) (cap : Nat) (b : List (BitVec 8)) (at_ : Nat) (err : Int) (e : Ending) (w' : World) : Prop :=
  e = .returned (.agg (encs .u8 (keyOf (rdGot b at_ err 32)))) ∧ Left w g A cap b at_ err 32 w'
theorem zero32 : #[Value.int .u8 0, .int .u8 0, .int .u8 0, .int .u8 0, .int .u8 0, .int .u8 0, .int .u8 0, .int .u8 0, .int .u8 0, .int .u8 0, .int .u8 0, .int .u8 0, .int .u8 0, .int .u8 0, .int .u8 0, .int .u8 0, .int .u8 0, .int .u8 0, .int .u8 0, .int .u8 0, .int .u8 0, .int .u8 0, .int .u8 0, .int .u8 0, .int .u8 0, .int .u8 0, .int .u8 0, .int .u8 0, .int .u8 0, .int .u8 0, .int .u8 0, .int .u8 0] = encs .u8 (List.replicate 32 (0 : BitVec 8)) := rfl
set_option maxHeartbeats 2000000 in
theorem key_any (g : Nat) (A : Option Addr) (cap : Nat) (b : List (BitVec 8)) (at_ : Nat) (err : Int) (w : World) (h : Rdr w g A cap b at_ err) :
    Calls Try.prog 69 #[.pointer (some ⟨g, 0, none⟩)] w (KeyD w g A cap b at_ err) := by
  have hg := h.blk.lt
  have HR := Lib.hid h
  clear h
  go_enter Try.func69, Try.ntmps69
  go_wp2_with fail
  simp only [zero32]
  refine mix_start (fun _ => True) (List.range 4) [2, 3] [] [] (by kernel_rfl) (by kernel_rfl) (fun d _ _ _ _ h => by cases d <;> exact h) trivial ?_
  repeat (refine mix_pure rfl rfl (fun K hK => ?_); go_simp; refine hK _ ?_; clear hK K)
  refine mix_eff rfl rfl (fun K hK => ?_)
  go_simp
  have hb0 : Below w.heap.size w ((w.alloc (.cells (encs .u8 (List.replicate 32 (0 : BitVec 8))) 26)).alloc (.cells (encs .u8 (List.replicate 32 (0 : BitVec 8))) 26)).drew := (((Below.refl _ _).alloc (Nat.le_refl _) _).alloc (by simp) _).drew
  refine (raw_any g A cap b at_ err 32 _ (HR.out.below hb0)).mono ?_
  rintro e w1 ⟨v, rfl, hown, hr, hU⟩
  have hB0 : Blk w1 w.heap.size (encs .u8 (List.replicate 32 (0 : BitVec 8))) 26 := Blk.upd (Blk.drew ((Blk.new_at w _ _ _ rfl).alloc _)) hU (by omega)
  have hB1 : Blk w1 (w.heap.size + 1) (encs .u8 (List.replicate 32 (0 : BitVec 8))) 26 := Blk.upd (Blk.drew (Blk.new_at _ _ _ _ (by simp))) hU (by omega)
  have hU1 : Upd g w w1 := (Upd.of_below hb0).trans hU
  refine hK _ _ (fun _ h => h) ?_
  clear hK K hb0
  obtain ⟨A', cap', rfl, hc, hrd⟩ := ownsRow_rd hown
  refine mix_eff rfl rfl (fun K hK => ?_)
  refine step_copy_blk rfl _ _ 38 38 5 rfl Try.underlying38 (by kernel_rfl) (w.heap.size + 1) 0 32 32 rfl _ _ hB1 A' _ cap' (encL .u8 (rdGot b at_ err 32)) (by rw [encL_length]) rfl hrd.cells (encL_one _ _) (by rw [encs_size]; simp) ?_
  intro w2 hB2 hU2
  have hk : Hid (over (encs .u8 (List.replicate 32 (0 : BitVec 8))) 0 ((encL .u8 (rdGot b at_ err 32)).take 32) = encs .u8 (keyOf (rdGot b at_ err 32))) := by
    show _ = _
    unfold keyOf
    rw [← over_encs]
    simp [encL]
  rw [hk.out] at hB2
  refine hK _ _ (fun _ h => h) ?_
  clear hK K hk
  have hB3 := hB0.upd hU2 (by omega)
  have hU3 : Upd g w w2 := hU1.behind (below_upd hU2 (by omega) hU1.size)
  have hrb := hr.blk.upd hU2 (by omega)
  have HH := Lib.hid hr.hle
  have HKl := Lib.hid (keyOf_length (rdGot b at_ err 32))
  clear hU2 hB0 hB1 hU1 hU hr hrd hown
  refine mix_nil ?_
  go_wp2_with (first | (refine wpList_load_row rfl 26 _ rfl _ rfl 26 _ (0, 0) _ hB2 Try.underlying26 rfl (by rw [encs_size, HKl.out]; exact sizeKey) ?_) | (refine wpList_store_row rfl 26 _ _ rfl _ _ rfl rfl 26 _ hB3 (by rw [encs_size, HKl.out]; exact sizeKey) (by rw [encs_size, encs_size, HKl.out]; simp) (encs_one _ _) ?_) | fail)
  have hU4 : Upd g w (w2.setRow w.heap.size (encs .u8 (keyOf (rdGot b at_ err 32)))) := hU3.behind (below_setRow (Below.refl _ _) (Nat.le_refl _) _)
  refine bodyPost_ret (results_cell_row rfl _ _ _ _ _ _ _ rfl (hB3.row _) Try.underlying26 rfl (by rw [encs_size, HKl.out]; exact sizeKey)) rfl ⟨rfl, ⟨hrb.farRow (by omega) _, HR.out.rd.upd hU4 HR.out.far, HR.out.far, HR.out.hcap, HH.out, HR.out.hlen⟩, hU4⟩
set_option maxHeartbeats 2000000 in
theorem key_nil (w : World) : Calls Try.prog 69 #[.pointer none] w fun e w' => e = .returned (.agg (encs .u8 (List.replicate 32 (0 : BitVec 8)))) ∧ Below w.heap.size w w' := by
  go_enter Try.func69, Try.ntmps69
  go_wp2_with fail
  simp only [zero32]
  refine mix_start (fun _ => True) (List.range 4) [2, 3] [] [] (by kernel_rfl) (by kernel_rfl) (fun d _ _ _ _ h => by cases d <;> exact h) trivial ?_
  repeat (refine mix_pure rfl rfl (fun K hK => ?_); go_simp; refine hK _ ?_; clear hK K)
  refine mix_eff rfl rfl (fun K hK => ?_)
  go_simp
  refine (raw_nil 32 _).mono ?_
  rintro e w1 ⟨rfl, rfl⟩
  refine hK _ _ (fun _ h => h) ?_
  clear hK K
  refine mix_eff rfl rfl (fun K hK => ?_)
  refine step_copy_blk rfl _ _ 38 38 5 rfl Try.underlying38 (by kernel_rfl) (w.heap.size + 1) 0 32 32 rfl _ _ (Blk.drew (Blk.new_at _ _ _ _ (by simp))) none 0 0 [] rfl rfl (Cells.nil _ _) (by simp) (by rw [encs_size]; simp) ?_
  intro w2 hB2 hU2
  have hB0 : Blk w2 w.heap.size (encs .u8 (List.replicate 32 (0 : BitVec 8))) 26 := Blk.upd (Blk.drew ((Blk.new_at w _ _ _ rfl).alloc _)) hU2 (by omega)
  have hb : Below w.heap.size w w2 := Upd.below (((Below.refl _ _).alloc (Nat.le_refl _) _).alloc (by simp) _).drew hU2 (by omega) (by simp; omega)
  have e : ∀ l : List (BitVec 8), over (encs .u8 l) 0 (([] : List Value).take 32) = encs .u8 l := fun l => by simp [over]
  rw [e] at hB2
  replace hB2 : Blk w2 (w.heap.size + 1) (encs .u8 (List.replicate 32 (0 : BitVec 8))) 26 := hB2
  clear e hU2
  refine hK _ _ (fun _ h => h) ?_
  clear hK K
  refine mix_nil ?_
  go_wp2_with (first | (refine wpList_load_row rfl 26 _ rfl _ rfl 26 _ (0, 0) _ hB2 Try.underlying26 rfl (by rw [encs_size, List.length_replicate]; exact sizeKey) ?_) | (refine wpList_store_row rfl 26 _ _ rfl _ _ rfl rfl 26 _ hB0 (by rw [encs_size, List.length_replicate]; exact sizeKey) rfl (encs_one _ _) ?_) | fail)
  exact bodyPost_ret (results_cell_row rfl _ _ _ _ _ _ _ rfl (hB0.row _) Try.underlying26 rfl (by rw [encs_size, List.length_replicate]; exact sizeKey)) rfl ⟨rfl, below_setRow hb (Nat.le_refl _) _⟩
theorem get64_nil (w : World) : Calls Try.prog 76 #[.slice none 0 0] w fun e w' => e = .returned (.int .u64 0) ∧ w = w' :=
  get64_any [] none 0 w Rd.nil (Nat.le_refl _)
theorem u64_nil (w : World) : Calls Try.prog 68 #[.pointer none] w fun e w' => e = .returned (.int .u64 0) ∧ w = w' := by
  go_enter Try.func68, Try.ntmps68
  go_wp2_with fail
  refine (raw_nil 8 _).mono ?_
  rintro e w1 ⟨rfl, rfl⟩
  go_wp2_with fail
  refine (get64_nil _).mono ?_
  rintro e w1 ⟨rfl, rfl⟩
  go_wp2_with fail
  go_ret
  exact ⟨rfl, rfl⟩
theorem u32_nil (w : World) : Calls Try.prog 65 #[.pointer none] w fun e w' => e = .returned (.int .u32 0) ∧ w = w' := by
  go_enter Try.func65, Try.ntmps65
  go_wp2_with fail
  refine (raw_nil 4 _).mono ?_
  rintro e w1 ⟨rfl, rfl⟩
  go_wp2_with fail
  refine (get64_nil _).mono ?_
  rintro e w1 ⟨rfl, rfl⟩
  go_wp2_with fail
  go_ret
  exact ⟨rfl, rfl⟩
theorem left_nil (w : World) : Calls Try.prog 71 #[.pointer none] w fun e w' => e = .returned (.int .i64 0) ∧ w = w' := by
  go_enter Try.func71, Try.ntmps71
  go_wp2_with fail
  go_ret
  exact ⟨rfl, rfl⟩
end Go.Proofs.Ytjnbgoiaocpcjaa
