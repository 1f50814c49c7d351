/- frame's messages and exchanges as bytes. -/
import Derived.Test.YtjnbgoiaocpcjaaFrHdr
import Derived.Test.YtjnbgoiaocpcjaaApp
namespace Go.Proofs.Ytjnbgoiaocpcjaa
open Go.RowKit
def msgL (k : List (BitVec 8)) (p n : BitVec 32) (body : List (BitVec 8)) : List Value := hdrL k p n ++ encL .u8 body
def excL (drop body : List (BitVec 8)) : List Value := encL .u8 drop ++ encL .u8 body
theorem putHeader_own (k : List (BitVec 8)) (p n : BitVec 32) (hk : k.length = 32) (w : World) : Calls Try.prog 16 #[.agg (hdrL k p n).toArray] w (RetOwn w 5 .u8 (hdrB k p n)) := putHeader_any k p n hk w
set_option maxHeartbeats 2000000 in
theorem putMessage_any (k body : List (BitVec 8)) (p n : BitVec 32) (hk : k.length = 32) (hbd : body.length = 65) (w : World) :
    Calls Try.prog 18 #[.agg (msgL k p n body).toArray] w (RetOwn w 5 .u8 (hdrB k p n ++ body)) := by
  have HK := Lib.hid hk
  have HB := Lib.hid hbd
  have HHL := Lib.hid (hdrL_length k p n hk)
  have HHB := Lib.hid (hdrB_length k p n hk)
  clear hk hbd
  go_enter Try.func18, Try.ntmps18
  go_wp2_with fail
  have hb : Below w.heap.size w (w.alloc (.cells (msgL k p n body).toArray 32)) := (Below.refl _ _).alloc (Nat.le_refl _) _
  have hB := Blk.new w (msgL k p n body).toArray 32
  generalize w.alloc (.cells (msgL k p n body).toArray 32) = W0 at *
  have r1 : Rd W0 .u8 (some ⟨w.heap.size, 34, none⟩) body := hB.rdSeg (hdrL k p n) [] (by simp [msgL]) HHL.out
  refine mix_start (fun w' => Below W0.heap.size W0 w') [0, 1, 3, 4, 2, 5, 6] [2, 5] [1] [] (by kernel_rfl) (by kernel_rfl) (fun d _ _ _ _ h => by cases d <;> exact h) (Below.refl _ _).drew ?_
  repeat (refine mix_pure rfl rfl (fun K hK => ?_); go_simp; refine hK _ ?_; clear hK K)
  refine mix_load_part rfl rfl rfl rfl 29 _ rfl w.heap.size 0 rfl 32 (msgL k p n body).toArray (0, 0) _ (hdrL k p n) (fun w' hS => hB.below hS hB.lt) (fun j v h => by rw [Nat.zero_add, List.getElem?_toArray, msgL, List.getElem?_append_left (List.getElem?_eq_some_iff.1 h).1]; exact h) Try.underlying29 rfl (by rw [HHL.out]; exact sizeHdr) ?_
  repeat (refine mix_pure rfl rfl (fun K hK => ?_); go_simp; refine hK _ ?_; clear hK K)
  refine mix_eff rfl rfl (fun K hK => ?_)
  go_simp
  refine (putHeader_any k p n HK.out _).mono ?_
  rintro e w1 ⟨v1, rfl, h1, hb1⟩
  have hb01 : Below W0.heap.size W0 w1 := (Below.refl _ _).drew.trans hb1
  replace hb := hb.trans (hb01.mono hb.size)
  refine hK _ _ (fun _ h => hb01) ?_
  clear hK K hb1
  have h1raw := h1
  replace h1 := owns_base h1 (show w.heap.size ≤ W0.drew.heap.size from Nat.le_of_lt hB.lt)
  repeat (refine mix_pure rfl rfl (fun K hK => ?_); go_simp; refine hK _ ?_; clear hK K)
  refine mix_eff rfl rfl (fun K hK => ?_)
  refine step_append_row rfl _ _ bytesT rfl w.heap.size _ _ _ rfl h1 (some ⟨w.heap.size, 34, none⟩) 65 65 (encL .u8 body) rfl (by rw [encL_length, HB.out]) (r1.below hb01).cells (encL_one _ _) (by rw [HHB.out]; omega) hb.size ?_
  intro v2 w2 h2 hgr _
  have hb2 : Below w.heap.size w w2 := below_grown hb hb.size hgr (fun q hq => (h1.lt q hq).1)
  refine hK _ _ (fun _ h => h.trans ?_) ?_
  · exact ⟨hgr.os, hgr.tape, hgr.output, hgr.size, fun k hk => hgr.block k (Nat.lt_of_lt_of_le hk h.size) (fun e => Nat.lt_irrefl _ (Nat.lt_of_le_of_lt (h1raw.lt k e.symm).1 hk))⟩
  clear hK K
  repeat (refine mix_pure rfl rfl (fun K hK => ?_); go_simp; refine hK _ ?_; clear hK K)
  refine mix_nil ?_
  go_wp2_with fail
  go_ret
  exact ⟨_, rfl, by rw [encL_append, List.length_append, HHB.out, HB.out]; rw [HHB.out] at h2; exact h2, hb2⟩
set_option maxRecDepth 100000 in
set_option maxHeartbeats 2000000 in
theorem putExchange_any (drop body : List (BitVec 8)) (hk : drop.length = 16) (hbd : body.length = 130) (w : World) :
    Calls Try.prog 20 #[.agg (excL drop body).toArray] w (RetOwn w 5 .u8 (drop ++ body)) := by
  have HK := Lib.hid hk
  have HB := Lib.hid hbd
  clear hk hbd
  go_enter Try.func20, Try.ntmps20
  go_wp2_with fail
  have hb : Below w.heap.size w (w.alloc (.cells (excL drop body).toArray 37)) := (Below.refl _ _).alloc (Nat.le_refl _) _
  have hB := Blk.new w (excL drop body).toArray 37
  generalize w.alloc (.cells (excL drop body).toArray 37) = W0 at *
  have r0 : Rd W0 .u8 (some ⟨w.heap.size, 0, none⟩) drop := hB.rdSeg [] (encL .u8 body) (by simp [excL]) rfl
  have r1 : Rd W0 .u8 (some ⟨w.heap.size, 16, none⟩) body := hB.rdSeg (encL .u8 drop) [] (by simp [excL]) (by rw [encL_length, HK.out])
  refine mix_start (fun w' => Below W0.heap.size W0 w') [1, 2, 4, 5, 0, 3, 6, 7] [0, 3, 6] [] [] (by kernel_rfl) (by kernel_rfl) (fun d _ _ _ _ h => by cases d <;> exact h) (Below.refl _ _).drew ?_
  repeat (refine mix_pure rfl rfl (fun K hK => ?_); go_simp; refine hK _ ?_; clear hK K)
  refine mix_eff rfl rfl (fun K hK => ?_)
  go_simp
  have hb1 : Below W0.heap.size W0 (W0.alloc (.cells #[] 5)).drew := ((Below.refl _ _).alloc (Nat.le_refl _) _).drew
  have h1 : OwnB (W0.alloc (.cells #[] 5)).drew W0.heap.size (.slice (some ⟨W0.heap.size, 0, none⟩) 0 0) [] := OwnB.empty (Nat.le_refl _)
  generalize (W0.alloc (.cells #[] 5)).drew = w1 at *
  generalize Value.slice (some ⟨W0.heap.size, 0, none⟩) 0 0 = v1 at *
  refine hK _ _ (fun _ h => hb1) ?_
  clear hK K
  repeat (refine mix_pure rfl rfl (fun K hK => ?_); go_simp; refine hK _ ?_; clear hK K)
  refine mix_eff rfl rfl (fun K hK => ?_)
  refine step_app rfl _ _ rfl W0.heap.size _ _ rfl h1 _ _ rfl (arg_of (r0.below hb1) HK.out (Nat.le_refl 16)) (by rw [HK.out]; simp) hb1.size ?_
  intro v2 w2 h2 hb2
  replace hb1 := hb1.trans hb2
  refine hK _ _ (fun _ h => h.trans hb2) ?_
  clear hK K hb2 h1
  repeat (refine mix_pure rfl rfl (fun K hK => ?_); go_simp; refine hK _ ?_; clear hK K)
  refine mix_eff rfl rfl (fun K hK => ?_)
  refine step_app rfl _ _ rfl W0.heap.size _ _ rfl h2 _ _ rfl (arg_of (r1.below hb1) HB.out (Nat.le_refl 130)) (by rw [List.length_append, HK.out, HB.out]; simp) hb1.size ?_
  intro v3 w3 h3 hb3
  replace hb1 := hb1.trans hb3
  refine hK _ _ (fun _ h => h.trans hb3) ?_
  clear hK K hb3 h2
  repeat (refine mix_pure rfl rfl (fun K hK => ?_); go_simp; refine hK _ ?_; clear hK K)
  refine mix_nil ?_
  go_wp2_with fail
  go_ret
  exact ⟨_, rfl, h3.base (Nat.le_of_lt hB.lt), hb.trans (hb1.mono hb.size)⟩
end Go.Proofs.Ytjnbgoiaocpcjaa
