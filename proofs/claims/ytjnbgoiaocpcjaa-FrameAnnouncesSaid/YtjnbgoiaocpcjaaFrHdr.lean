/- frame's headers: PutHeader, header, GetHeader. -/
import Derived.Test.YtjnbgoiaocpcjaaFrPure
namespace Go.Proofs.Ytjnbgoiaocpcjaa
open Go.RowKit
set_option maxHeartbeats 2000000 in
theorem putHeader_any (k : List (BitVec 8)) (p n : BitVec 32) (hk : k.length = 32) (w : World) :
    Calls Try.prog 16 #[.agg (hdrL k p n).toArray] w (RetOwn w 5 .u8 (hdrB k p n)) := by
  have HK := Lib.hid hk
  clear hk
  go_enter Try.func16, Try.ntmps16
  go_wp2_with fail
  have hb : Below w.heap.size w (w.alloc (.cells (hdrL k p n).toArray 29)) := (Below.refl _ _).alloc (Nat.le_refl _) _
  have hB := Blk.new w (hdrL k p n).toArray 29
  generalize w.alloc (.cells (hdrL k p n).toArray 29) = W0 at *
  have c1 : W0.cell? ⟨w.heap.size, 32, none⟩ = some (.int .u32 (wb p)) := hB.cellSeg (encL .u8 k) _ rfl (by rw [encL_length, HK.out])
  have c2 : W0.cell? ⟨w.heap.size, 33, none⟩ = some (.int .u32 (wb n)) := hB.cellSeg (encL .u8 k ++ [.int .u32 (wb p)]) [] (by simp [hdrL]) (by simp [encL_length, HK.out])
  have r0 : Rd W0 .u8 (some ⟨w.heap.size, 0, none⟩) k := hB.rdSeg [] _ rfl rfl
  refine mix_start (fun w' => Below W0.heap.size W0 w') [0, 1, 2, 3, 5, 6, 4, 7, 8] [4, 7] [3, 6] [] (by kernel_rfl) (by kernel_rfl) (fun d _ _ _ _ h => by cases d <;> exact h) (Below.refl _ _).drew ?_
  repeat (refine mix_pure rfl rfl (fun K hK => ?_); go_simp; refine hK _ ?_; clear hK K)
  refine mix_read (.int .u32 (wb p)) rfl rfl rfl rfl (fun w' hS => ?_) ?_
  · have hc' := below_cell hS c1
    go_simp
  repeat (refine mix_pure rfl rfl (fun K hK => ?_); go_simp; refine hK _ ?_; clear hK K)
  refine mix_read (.int .u32 (wb n)) rfl rfl rfl rfl (fun w' hS => ?_) ?_
  · have hc' := below_cell hS c2
    go_simp
  refine mix_eff rfl rfl (fun K hK => ?_)
  go_simp
  refine (put32_v (arg_of (r0.below (Below.refl _ _).drew) HK.out (Nat.le_refl _)) p (by rw [HK.out]; omega)).mono ?_
  rintro e w1 ⟨v1, rfl, h1, hb1⟩
  replace h1 : OwnB w1 _ v1 (k ++ low (p.setWidth 64) 4) := h1
  replace hb := hb.drew.trans (hb1.mono hb.drew.size)
  refine hK _ _ (fun _ h => h.trans (hb1.mono h.size)) ?_
  clear hK K hb1 c1 c2
  repeat (refine mix_pure rfl rfl (fun K hK => ?_); go_simp; refine hK _ ?_; clear hK K)
  refine mix_eff rfl rfl (fun K hK => ?_)
  go_simp
  refine (put32_v h1.arg n (by rw [List.length_append, HK.out, low_length]; omega)).mono ?_
  rintro e w2 ⟨v2, rfl, h2, hb2⟩
  replace h2 := owns_base h2 hb.size
  replace hb := hb.trans (hb2.mono hb.size)
  refine hK _ _ (fun _ h => h.trans (hb2.mono h.size)) ?_
  clear hK K hb2 h1
  repeat (refine mix_pure rfl rfl (fun K hK => ?_); go_simp; refine hK _ ?_; clear hK K)
  refine mix_nil ?_
  go_wp2_with fail
  go_ret
  exact ⟨_, rfl, h2, hb⟩
set_option maxHeartbeats 2000000 in
theorem header_any (g : Nat) (A : Option Addr) (cap : Nat) (b : List (BitVec 8)) (at_ : Nat) (w : World) (h : Rdr w g A cap b at_ 0) (hlen : at_ + 40 ≤ b.length) :
    Calls Try.prog 55 #[.pointer (some ⟨g, 0, none⟩)] w fun e w' => e = .returned (.agg (hdrL ((b.drop at_).take 32) (num32 b (at_ + 32)) (num32 b (at_ + 36))).toArray) ∧ Rdr w' g A cap b (at_ + 40) 0 ∧ Upd g w w' := by
  obtain ⟨a1, a2, a3, a4⟩ := rd_ok b at_ 32 32 rfl (by omega)
  obtain ⟨b1, b2, b3, b4⟩ := rd_ok b (at_ + 32) 4 4 rfl (by omega)
  obtain ⟨c1, c2, c3, c4⟩ := rd_ok b (at_ + 32 + 4) 4 4 rfl (by omega)
  obtain ⟨key, hkey⟩ : ∃ key, key = (b.drop at_).take 32 := ⟨_, rfl⟩
  rw [← hkey] at a1 a4 ⊢
  clear hkey
  have hbd := build_hdr key (num32 b (at_ + 32)) (num32 b (at_ + 36)) a4
  have A1 := Lib.hid a1
  have A2 := Lib.hid a2
  have A3 := Lib.hid a3
  have A4 := Lib.hid a4
  have B1 := Lib.hid b1
  have B2 := Lib.hid b2
  have B3 := Lib.hid b3
  have C1 := Lib.hid c1
  have C2 := Lib.hid c2
  have C3 := Lib.hid c3
  have hg := h.blk.lt
  clear a1 a2 a3 a4 b1 b2 b3 b4 c1 c2 c3 c4
  have HR := Lib.hid h
  clear h
  have HZ := Lib.hid (hdrL_length (List.replicate 32 0) 0 0 (by simp))
  have HL := Lib.hid (hdrL_length key (num32 b (at_ + 32)) (num32 b (at_ + 36)) A4.out)
  have HO := Lib.hid (hdrL_one key (num32 b (at_ + 32)) (num32 b (at_ + 36)))
  have hu3 : Hid ((get64 ((b.drop (at_ + 32)).take 4)).setWidth 32 = num32 b (at_ + 32)) := rfl
  have hu4 : Hid ((get64 ((b.drop (at_ + 32 + 4)).take 4)).setWidth 32 = num32 b (at_ + 36)) := rfl
  generalize num32 b (at_ + 32) = p at *
  generalize num32 b (at_ + 36) = n at *
  go_enter Try.func55, Try.ntmps55
  go_wp2_with fail
  have hb0 : Below w.heap.size w (w.alloc (.cells (hdrL (List.replicate 32 0) 0 0).toArray 29)) := (Below.refl _ _).alloc (Nat.le_refl _) _
  have hB0 := Blk.new w (hdrL (List.replicate 32 0) 0 0).toArray 29
  refine (key_any g A cap b at_ 0 _ (HR.out.below hb0)).mono ?_
  rintro e w1 ⟨rfl, hr1, hu1⟩
  rw [A1.out, keyOf_all _ A4.out]
  rw [A2.out, A3.out] at hr1
  have hB1 := hB0.upd hu1 (by omega)
  have hU1 : Upd g w w1 := (Upd.of_below hb0).trans hu1
  clear hB0 hu1 hb0
  go_wp2_with fail
  refine (u32_any g A cap b _ 0 _ hr1).mono ?_
  rintro e w2 ⟨rfl, hr2, hu2⟩
  rw [B1.out, hu3.out]
  rw [B2.out, B3.out] at hr2
  have hB2 := hB1.upd hu2 (by omega)
  have hU2 := hU1.trans hu2
  clear hB1 hu2 hU1 hr1
  go_wp2_with fail
  refine (u32_any g A cap b _ 0 _ hr2).mono ?_
  rintro e w3 ⟨rfl, hr3, hu3'⟩
  rw [C1.out, hu4.out]
  rw [C2.out, C3.out] at hr3
  have hB3 := hB2.upd hu3' (by omega)
  have hU3 := hU2.trans hu3'
  clear hB2 hu3' hU2 hr2
  go_wp2_with (first | (refine wpList_build rfl 29 _ rfl (.agg (hdrL key p n).toArray) _ hbd (by simp [Act.eval]) ?_) | (refine wpList_store_row rfl 29 _ _ rfl _ _ rfl rfl 29 _ hB3 (by rw [List.size_toArray, HL.out]; exact sizeHdr) (by rw [List.size_toArray, List.size_toArray, HL.out, HZ.out]) HO.out ?_) | fail)
  have hU4 : Upd g w (w3.setRow w.heap.size (hdrL key p n).toArray) := hU3.behind (below_setRow (Below.refl _ _) (Nat.le_refl _) _)
  have hres : Hid ((w3.setRow w.heap.size (hdrL key p n).toArray).heap[w.heap.size]? = some (.cells (hdrL key p n).toArray 29 (0, 0))) := hB3.row _
  have hs : Hid ((Try.prog.info? 29).map (·.size) = some (hdrL key p n).toArray.size) := by show _ = _; rw [List.size_toArray, HL.out]; exact sizeHdr
  refine bodyPost_ret (v := .agg (hdrL key p n).toArray) (results_cell_row rfl _ _ _ _ _ _ _ rfl hres.out Try.underlying29 rfl hs.out) rfl ?_
  exact ⟨rfl, ⟨hr3.blk.farRow (by omega) _, HR.out.rd.upd hU4 HR.out.far, hr3.far, hr3.hcap, hr3.hle, hr3.hlen⟩, hU4⟩
/-- What GetHeader makes of bytes. -/
def HdrGot (b : List (BitVec 8)) (w : World) (e : Ending) (w' : World) : Prop :=
  e = (if b.length = 40 then .returned (.tuple #[.agg (hdrL (b.take 32) (num32 b 32) (num32 b 36)).toArray, .int .i64 0]) else .returned (.tuple #[.agg (hdrL (List.replicate 32 0) 0 0).toArray, .int .i64 240])) ∧ Below w.heap.size w w'
set_option maxHeartbeats 2000000 in
theorem getHeader_any (b : List (BitVec 8)) (A : Option Addr) (cap : Nat) (w : World) (hR : Rd w .u8 A b) (hc : b.length ≤ cap) (hlen : b.length ≤ 140737488355328) :
    Calls Try.prog 23 #[.slice A b.length cap] w (HdrGot b w) := by
  by_cases h40 : b.length = 40
  · have hbd := hdrL_length (b.take 32) (num32 b 32) (num32 b 36) (by rw [List.length_take]; omega)
    have hone := hdrL_one (b.take 32) (num32 b 32) (num32 b 36)
    have hpost : Hid (∀ w', Below w.heap.size w w' → HdrGot b w (.returned (.tuple #[.agg (hdrL (b.take 32) (num32 b 32) (num32 b 36)).toArray, .int .i64 0])) w') := fun w' h => ⟨by rw [if_pos h40], h⟩
    have H40 := Lib.hid h40
    have HBD := Lib.hid hbd
    have HONE := Lib.hid hone
    have HZ := Lib.hid (hdrL_length (List.replicate 32 0) 0 0 (by simp))
    clear hbd hone
    have hA := Lib.hid (arg_of hR h40 (Nat.le_trans (by omega) hc))
    rw [h40] at hc ⊢
    clear h40 hR
    generalize hH : hdrL (b.take 32) (num32 b 32) (num32 b 36) = H at *
    have HH := Lib.hid hH
    clear hH
    go_enter Try.func23, Try.ntmps23
    go_wp2_with fail
    have hb0 : Below w.heap.size w (w.alloc (.cells (hdrL (List.replicate 32 0) 0 0).toArray 29)) := (Below.refl _ _).alloc (Nat.le_refl _) _
    have hB0 := Blk.new w (hdrL (List.replicate 32 0) 0 0).toArray 29
    refine (read_v (hA.out.below hb0) hlen).mono ?_
    rintro e w1 ⟨g, A', cap', rfl, hr, hg, hb1⟩
    have hB1 := hB0.below hb1 hB0.lt
    have hg0 : w.heap.size < g := by simp at hg; omega
    replace hb1 := hb0.trans (hb1.mono hb0.size)
    clear hB0 hb0 hg
    go_wp2_with fail
    refine (header_any g A' cap' b 0 w1 hr (by rw [H40.out]; omega)).mono ?_
    rintro e w2 ⟨rfl, _, hu⟩
    simp only [List.drop_zero, Nat.zero_add, HH.out]
    have hB2 := hB1.upd hu (by omega)
    have hb2 := Upd.below hb1 hu (by omega) hb1.size
    clear hB1 hb1 hu hr
    go_wp2_with (first | (refine wpList_store_row rfl 29 _ _ rfl _ _ rfl rfl 29 _ hB2 (by rw [List.size_toArray, HBD.out]; exact sizeHdr) (by rw [List.size_toArray, List.size_toArray, HBD.out, HZ.out]) HONE.out ?_) | fail)
    refine bodyPost_ret (v := .tuple #[.agg H.toArray, .int .i64 0]) (results_cell_tmp rfl _ _ _ _ _ _ _ _ rfl rfl (hB2.row _) Try.underlying29 rfl (by rw [List.size_toArray, HBD.out]; exact sizeHdr)) rfl (hpost.out _ (below_setRow hb2 (Nat.le_refl _) _))
  · have hpost : Hid (∀ w', Below w.heap.size w w' → HdrGot b w (.returned (.tuple #[.agg (hdrL (List.replicate 32 0) 0 0).toArray, .int .i64 240])) w') := fun w' h => ⟨by rw [if_neg h40], h⟩
    have HZ := Lib.hid (hdrL_length (List.replicate 32 0) 0 0 (by simp))
    have HONE := Lib.hid (hdrL_one (List.replicate 32 0) 0 0)
    have e0 : ((b.length : Int) != 40) = true := by simp; omega
    have hz := Lib.hid build_hdr0
    generalize b.length = len at *
    generalize hH : hdrL (List.replicate 32 0) 0 0 = H at *
    go_enter Try.func23, Try.ntmps23
    have hB0 : Blk (w.alloc (.cells H.toArray 29)) w.heap.size H.toArray 29 := Blk.new _ _ _
    have hb0 : Below w.heap.size w (w.alloc (.cells H.toArray 29)) := (Below.refl _ _).alloc (Nat.le_refl _) _
    subst hH
    go_wp2_with (first | (refine wpList_build rfl 29 _ rfl (.agg (hdrL (List.replicate 32 0) 0 0).toArray) _ hz.out (by simp) ?_) | (refine wpList_store_row rfl 29 _ _ rfl _ _ rfl rfl 29 _ hB0 (by rw [List.size_toArray, HZ.out]; exact sizeHdr) rfl HONE.out ?_) | fail)
    exact bodyPost_ret (v := .tuple #[.agg (hdrL (List.replicate 32 0) 0 0).toArray, .int .i64 240]) (results_cell_tmp rfl _ _ _ _ _ _ _ _ rfl rfl (hB0.row _) Try.underlying29 rfl (by rw [List.size_toArray, HZ.out]; exact sizeHdr)) rfl (hpost.out _ (below_setRow hb0 (Nat.le_refl _) _))
end Go.Proofs.Ytjnbgoiaocpcjaa
