/- Does the layer do anything? -/
import Derived.Test.YtpledkahbifnfaaShaSumB
import Derived.Test.YtpledkahbifnfaaRoomS
import Derived.Lib.SmallJoins
namespace Go.Proofs.Ytpledkahbifnfaa
open Go.RowKit
set_option linter.unusedVariables false
set_option linter.unusedSimpArgs false
theorem eq_key (a b : List (BitVec 8)) (ha : a.length = 32) (hb : b.length = 32) (h : a = b) (w : World) : (Op.equalIn 10000 28 (.agg (encs .u8 a)) (.agg (encs .u8 b))).run Try.prog w = .ok true w := by
  subst h
  rw [run_equalIn_encs w 9998 28 5 .u8 32 Try.underlying28 Try.underlying5 (by kernel_rfl) a a ha ha]
  simp
theorem shasum_v {w : World} {v : Value} {b : List (BitVec 8)} (h : Arg w v b) (hlen : b.length ≤ 281474976710656) : Calls Try.prog 17 #[v] w fun e w' => e = .returned (.agg (encs .u8 (sha b))) ∧ Below w.heap.size w w' := by
  obtain ⟨A, cap, rfl, hc, hr⟩ := h
  exact shasum_any b A cap w hr hc hlen
def abc : List (BitVec 8) := [97, 98, 99]
def abcC : Array Value := #[.int .u8 97, .int .u8 98, .int .u8 99]
theorem abc_conv (w : World) : (convert 22 22 (.slice (some ⟨w.heap.size, 0, none⟩) 3 3)).run Try.prog (w.alloc (.cells #[.int .u8 97, .int .u8 98, .int .u8 99] 5)) = .ok (.slice (some ⟨w.heap.size, 0, none⟩) 3 3) (w.alloc (.cells abcC 5 (3, 4))) :=
  Joins.run_convert_bytes_const_at w 22 5 abcC 3 3 w.heap.size rfl Try.underlying22 Try.underlying5
theorem abc_rd (w : World) : Rd (w.alloc (.cells abcC 5 (3, 4))) .u8 (some ⟨w.heap.size, 0, none⟩) abc := fun i hi => by
  refine ⟨_, _, rfl, ?_⟩
  rw [Nat.zero_add, Joins.cell_alloc_mark_at _ _ _ _ _ _ rfl]
  exact encs_get .u8 abc i hi
set_option maxRecDepth 100000 in
theorem sha_abc0 : (sha abc).getD 0 0 = 186 := by decide +kernel
set_option maxRecDepth 100000 in
theorem sha_abc31 : (sha abc).getD 31 0 = 173 := by decide +kernel
set_option maxRecDepth 100000 in
set_option maxHeartbeats 4000000 in
theorem wakes_any (w : World) : Calls Try.prog 10 #[] w fun e w' => e = .returned (.bool true) ∧ Below w.heap.size w w' := by
  have HL := Lib.hid (sha_length abc)
  have H0 := Lib.hid sha_abc0
  have H31 := Lib.hid sha_abc31
  have heq := eq_key (sha abc) (sha abc) HL.out HL.out rfl
  have HSUM := Lib.hid (fun g gk w' (h : HashR w' g gk abc) => sum_any g gk abc w' h (by simp [abc]))
  have hcv := abc_conv
  go_enter Try.func10, Try.ntmps10
  have ha1 : Arg (w.alloc (.cells abcC 5 (3, 4))) (.slice (some ⟨w.heap.size, 0, none⟩) 3 3) abc := ⟨_, 3, rfl, Nat.le_refl _, abc_rd w⟩
  have hb : Below w.heap.size w (w.alloc (.cells abcC 5 (3, 4))) := (Below.refl _ _).alloc (Nat.le_refl _) _
  go_wp2_with fail
  refine (shasum_v ha1 (by simp [abc])).mono ?_
  rintro e w1 ⟨rfl, hn⟩
  replace hb := hb.trans (hn.mono hb.size)
  clear hn ha1
  have hN := Blk.new w1 (encs .u8 z32s) 28
  have hBK := hN.row (encs .u8 (sha abc))
  have hn : Below w1.heap.size w1 ((w1.alloc (.cells (encs .u8 z32s) 28)).setRow w1.heap.size (encs .u8 (sha abc))) := below_setRow ((Below.refl _ _).alloc (Nat.le_refl _) _) (Nat.le_refl _) _
  replace hb := hb.trans (hn.mono hb.size)
  clear hn
  go_wp2_with (first | (refine wpList_store_row rfl 28 _ _ rfl _ _ rfl rfl 28 _ hN (by rw [encs_size, HL.out]; exact sizeKey0) (by rw [encs_size, encs_size, HL.out]; rfl) (encs_one _ _) ?_; change wpList _ _ _ _ _ ((w1.alloc (.cells (encs .u8 z32s) 28)).setRow w1.heap.size (encs .u8 (sha abc))); generalize (w1.alloc (.cells (encs .u8 z32s) 28)).setRow w1.heap.size (encs .u8 (sha abc)) = w2 at *; generalize w1.heap.size = gk at *) | fail)
  clear hN
  refine (new_any w2).mono ?_
  rintro e w3 ⟨g, gq, rfl, hg, hge, _, hn⟩
  have hk2 := hBK.lt
  have hb2 := hb.size
  replace hBK := hBK.below hn hBK.lt
  replace hb := hb.trans (hn.mono hb.size)
  clear hn
  have hgk : gk ≠ g := by omega
  have hR3 := abc_rd w3
  have hn : Below w3.heap.size w3 (w3.alloc (.cells abcC 5 (3, 4))) := (Below.refl _ _).alloc (Nat.le_refl _) _
  have hlt := hg.lt
  have HW := Lib.hid (mwrite_any g gq [] abc _ 3 _ (hg.below hn) hR3 (Nat.le_refl _) (fun a ha _ => by cases ha; show w3.heap.size ≠ g; omega) (by simp [abc]) (by simp [abc]))
  replace hBK := hBK.below hn hBK.lt
  have hgb : w.heap.size ≤ g := by omega
  replace hb := hb.trans (hn.mono hb.size)
  clear hn hR3 hg
  go_wp2_with fail
  refine (HW.out).mono ?_
  rintro e w4 ⟨rfl, hg, hu⟩
  rw [List.nil_append] at hg
  replace hBK := hBK.upd hu hgk
  replace hb := Upd.below hb hu hgb hb.size
  clear hu HW
  go_wp2_with fail
  have c0 := hBK.word 0 (by rw [HL.out]; omega)
  have c31 := hBK.word 31 (by rw [HL.out]; omega)
  rw [H0.out] at c0
  rw [H31.out] at c31
  have hHS := HSUM.out g gq
  have HG := Lib.hid hg
  clear hg HSUM
  refine mix_start (fun w' => Below w4.heap.size w4 w') [0, 1, 2, 3, 4, 5, 6, 7, 8, 9, 11, 10, 12, 13, 14, 15, 16, 17, 18, 19] [10, 16] [1, 5, 11] [] (by kernel_rfl) (by kernel_rfl) (fun d _ _ _ _ h => by cases d <;> exact h) (Below.refl _ _).drew ?_
  repeat (refine mix_pure rfl rfl (fun K hK => ?_); go_simp; refine hK _ ?_; clear hK K)
  refine mix_read (.int .u8 (wb (186 : BitVec 8))) rfl rfl rfl rfl (fun w' hS => ?_) ?_
  · have hc' := below_cell hS c0
    go_simp
  repeat (refine mix_pure rfl rfl (fun K hK => ?_); go_simp; refine hK _ ?_; clear hK K)
  refine mix_read (.int .u8 (wb (173 : BitVec 8))) rfl rfl rfl rfl (fun w' hS => ?_) ?_
  · have hc' := below_cell hS c31
    go_simp
  repeat (refine mix_pure rfl rfl (fun K hK => ?_); go_simp; refine hK _ ?_; clear hK K)
  refine mix_load_row rfl rfl rfl rfl 28 _ rfl gk rfl _ 28 (0, 0) _ (fun w' hS => hBK.below hS hBK.lt) Try.underlying28 rfl (by rw [encs_size, HL.out]; exact sizeKey0) ?_
  repeat (refine mix_pure rfl rfl (fun K hK => ?_); go_simp; refine hK _ ?_; clear hK K)
  refine mix_eff rfl rfl (fun K hK => ?_)
  go_simp
  refine (hHS _ (HG.out.below (Below.refl _ _).drew)).mono ?_
  rintro e w5 ⟨rfl, hn⟩
  have hn' : Below w4.heap.size w4 w5 := (Below.refl _ _).drew.trans hn
  refine hK _ _ (fun _ _ => hn') ?_
  clear hK K hn
  repeat (refine mix_pure rfl rfl (fun K hK => ?_); go_simp; refine hK _ ?_; clear hK K)
  refine mix_eff rfl rfl (fun K hK => ?_)
  go_simp
  refine (len_any g gq abc _ (HG.out.below hn')).mono ?_
  rintro e w' ⟨rfl, rfl⟩
  refine hK _ _ (fun _ h => h) ?_
  clear hK K
  rw [show abc.length = 3 from rfl]
  repeat (refine mix_pure rfl rfl (fun K hK => ?_); go_simp; refine hK _ ?_; clear hK K)
  refine mix_nil ?_
  go_wp2_with fail
  go_ret
  exact ⟨rfl, hb.trans (hn'.mono hb.size)⟩
end Go.Proofs.Ytpledkahbifnfaa
