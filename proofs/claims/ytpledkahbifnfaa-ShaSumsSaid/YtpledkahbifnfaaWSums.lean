/- The hash of bytes is SHA-256's; for every bytes. -/
import Derived.Test.YtpledkahbifnfaaRefV
namespace Go.Proofs.Ytpledkahbifnfaa
open Go.RowKit
set_option linter.unusedVariables false
set_option linter.unusedSimpArgs false
set_option maxRecDepth 100000 in
set_option maxHeartbeats 4000000 in
theorem sums_walk (b : List (BitVec 8)) (A : Option Addr) (cap : Nat) (w : World) (hR : Rd w .u8 A b) (hc : b.length ≤ cap) (hlen : b.length ≤ 140737488351232) :
    Calls Try.prog 7 #[.slice A b.length cap] w fun e w' => e = .returned (.bool true) ∧ Below w.heap.size w w' := by
  have HA : Hid (Arg w (.slice A b.length cap) b) := ⟨A, cap, rfl, hc, hR⟩
  have HL := Lib.hid (sha_length b)
  have heq := eq_key (sha b) (sha b) HL.out HL.out rfl
  have HLE := Lib.hid hlen
  have H7 : Hid ((b ++ [(7 : BitVec 8)]).getD b.length 0 = 7) := by show _ = _; simp [List.getD]
  have HLL : Hid ((b ++ [(7 : BitVec 8)]).length = b.length + 1) := by show _ = _; simp
  clear hR hc
  go_enter Try.func7, Try.ntmps7
  go_wp2_with fail
  refine (wakes_any w).mono ?_
  rintro e w1 ⟨rfl, hb⟩
  go_wp2_with fail
  refine (room_v (HA.out.below hb) HLE.out).mono ?_
  rintro e w2 ⟨g, c2, rfl, hown, hc2, hn⟩
  replace hb := hb.trans (hn.mono hb.size)
  clear hn
  have hR2 := rd_left hown.rd
  have ha2 : Arg w2 (.slice (some ⟨g, 0, none⟩) b.length c2) b := ⟨_, _, rfl, by omega, hR2⟩
  go_wp2_with fail
  refine (shasum_v ha2 (by have := HLE.out; omega)).mono ?_
  rintro e w3 ⟨rfl, hn⟩
  replace hown := hown.below hn
  replace ha2 := ha2.below hn
  replace hb := hb.trans (hn.mono hb.size)
  clear hn hR2
  have hN := Blk.new w3 (encs .u8 z32s) 28
  have hBK := hN.row (encs .u8 (sha b))
  have hn : Below w3.heap.size w3 ((w3.alloc (.cells (encs .u8 z32s) 28)).setRow w3.heap.size (encs .u8 (sha b))) := below_setRow ((Below.refl _ _).alloc (Nat.le_refl _) _) (Nat.le_refl _) _
  replace hown := hown.below hn
  replace ha2 := ha2.below hn
  replace hb := hb.trans (hn.mono hb.size)
  clear hn
  go_wp2_with (first | (refine wpList_store_row rfl 28 _ _ rfl _ _ rfl rfl 28 _ hN (by rw [encs_size, HL.out]; exact sizeKey0) (by rw [encs_size, encs_size, HL.out]; rfl) (encs_one _ _) ?_; change wpList _ _ _ _ _ ((w3.alloc (.cells (encs .u8 z32s) 28)).setRow w3.heap.size (encs .u8 (sha b))); generalize (w3.alloc (.cells (encs .u8 z32s) 28)).setRow w3.heap.size (encs .u8 (sha b)) = w4 at *; generalize w3.heap.size = gk at *) | fail)
  clear hN
  have c7 := rd_at hown.rd b.length (by rw [HLL.out]; omega)
  rw [H7.out, Nat.zero_add] at c7
  have hs1 := fun wx => run_slice_to (P := Try.prog) bytesT (some ⟨g, 0, none⟩) b.length c2 ((b.length : Int) + 1) .i64 (by omega) (by omega) wx
  rw [cutA_zero, show ((b.length : Int) + 1).toNat = b.length + 1 by omega] at hs1
  have hw1 : IntKind.i64.wrap ((b.length : Int) + 1) = (b.length : Int) + 1 := IntWalk.i64_in _ (by omega)
  have hw2 : (0 : Int) ≤ (b.length : Int) + 1 := by omega
  have hw3 : (b.length : Int) < (b.length : Int) + 1 := by omega
  have hw4 : ((b.length : Int) + 1).toNat = b.length + 1 := by omega
  have hw5 : (b.length : Int) + 1 ≤ (c2 : Int) := by omega
  have HB := Lib.hid hb
  have HBK := Lib.hid hBK
  have HA2 := Lib.hid ha2
  have HOW := Lib.hid hown
  clear hb hBK ha2 hown
  refine mix_start (fun w' => Below w4.heap.size w4 w') [0, 1, 2, 3, 4, 5, 6, 7, 8, 9, 10, 11, 12, 13, 14, 15, 16, 17, 18, 19, 20, 21, 22, 24, 23, 25, 26, 27] [2, 7, 23] [0, 18, 24] [] (by kernel_rfl) (by kernel_rfl) (fun d _ _ _ _ h => by cases d <;> exact h) (Below.refl _ _).drew ?_
  refine mix_load_row rfl rfl rfl rfl 28 _ rfl gk rfl _ 28 (0, 0) _ (fun w' hS => HBK.out.below hS HBK.out.lt) Try.underlying28 rfl (by rw [encs_size, HL.out]; exact sizeKey0) ?_
  repeat (refine mix_pure rfl rfl (fun K hK => ?_); go_simp; refine hK _ ?_; clear hK K)
  refine mix_eff rfl rfl (fun K hK => ?_)
  go_simp
  refine (rsum_v (((HA.out.below HB.out)).below (Below.refl _ _).drew) (by have := HLE.out; omega)).mono ?_
  rintro e w5 ⟨rfl, hn⟩
  have hn5 : Below w4.heap.size w4 w5 := (Below.refl _ _).drew.trans hn
  refine hK _ _ (fun _ _ => hn5) ?_
  clear hK K hn
  repeat (refine mix_pure rfl rfl (fun K hK => ?_); go_simp; refine hK _ ?_; clear hK K)
  refine mix_eff rfl rfl (fun K hK => ?_)
  go_simp
  refine (bytesEqual_v (HA2.out.below hn5) ((HA.out.below HB.out).below hn5)).mono ?_
  rintro e w' ⟨rfl, rfl⟩
  refine hK _ _ (fun _ h => h) ?_
  clear hK K
  simp only [beq_self_eq_true]
  repeat (refine mix_pure rfl rfl (fun K hK => ?_); go_simp; refine hK _ ?_; clear hK K)
  refine mix_read (.int .u8 (wb (7 : BitVec 8))) rfl rfl rfl rfl (fun w' hS => ?_) ?_
  · have hc' := below_cell hS c7
    go_simp
  repeat (refine mix_pure rfl rfl (fun K hK => ?_); go_simp; refine hK _ ?_; clear hK K)
  refine mix_load_row rfl rfl rfl rfl 28 _ rfl gk rfl _ 28 (0, 0) _ (fun w' hS => HBK.out.below hS HBK.out.lt) Try.underlying28 rfl (by rw [encs_size, HL.out]; exact sizeKey0) ?_
  repeat (refine mix_pure rfl rfl (fun K hK => ?_); go_simp; refine hK _ ?_; clear hK K)
  refine mix_eff rfl rfl (fun K hK => ?_)
  go_simp
  refine (shasum_v ((HA.out.below HB.out).below hn5) (by have := HLE.out; omega)).mono ?_
  rintro e w6 ⟨rfl, hn⟩
  have hn6 := hn5.trans (hn.mono hn5.size)
  refine hK _ _ (fun _ _ => hn6) ?_
  clear hK K hn
  repeat (refine mix_pure rfl rfl (fun K hK => ?_); go_simp; refine hK _ ?_; clear hK K)
  refine mix_nil ?_
  go_wp2_with fail
  go_ret
  exact ⟨rfl, HB.out.trans (hn6.mono HB.out.size)⟩
end Go.Proofs.Ytpledkahbifnfaa
