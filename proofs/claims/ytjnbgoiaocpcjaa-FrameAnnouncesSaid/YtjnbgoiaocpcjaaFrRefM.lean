/- frame's reference: Header, Message, Exchange. -/
import Derived.Test.YtjnbgoiaocpcjaaFrRef
namespace Go.Proofs.Ytjnbgoiaocpcjaa
open Go.RowKit
theorem args_of {w : World} {g : Nat} {vs : List Value} {ms : List (List (BitVec 8))} (h : Blk w g vs.toArray 38) (hl : vs.length = ms.length) (ha : ∀ i, i < ms.length → Arg w (vs.getD i undef) (ms.getD i [])) : Args w (some ⟨g, 0, none⟩) ms := fun i hi => by
  refine ⟨g, 0, vs.getD i undef, rfl, ?_, ha i hi⟩
  rw [h.cell]
  have : i < vs.length := by omega
  simp [List.getD, List.getElem?_eq_getElem this]
theorem args1 {w : World} {v : Value} {m : List (BitVec 8)} (h : Arg w v m) : Args (w.alloc (.cells #[v] 38)) (some ⟨w.heap.size, 0, none⟩) [m] :=
  args_of (vs := [v]) (Blk.new _ _ _) rfl (fun i hi => by
    obtain rfl : i = 0 := by simp at hi; omega
    exact h.below ((Below.refl _ _).alloc (Nat.le_refl _) _))
theorem args2 {w : World} {v u : Value} {m n : List (BitVec 8)} (h : Arg w v m) (h' : Arg w u n) : Args (w.alloc (.cells #[v, u] 38)) (some ⟨w.heap.size, 0, none⟩) [m, n] :=
  args_of (vs := [v, u]) (Blk.new _ _ _) rfl (fun i hi => by
    have : i = 0 ∨ i = 1 := by simp at hi; omega
    rcases this with rfl | rfl
    · exact h.below ((Below.refl _ _).alloc (Nat.le_refl _) _)
    · exact h'.below ((Below.refl _ _).alloc (Nat.le_refl _) _))
theorem args3 {w : World} {v u x : Value} {m n o : List (BitVec 8)} (h : Arg w v m) (h' : Arg w u n) (h'' : Arg w x o) : Args (w.alloc (.cells #[v, u, x] 38)) (some ⟨w.heap.size, 0, none⟩) [m, n, o] :=
  args_of (vs := [v, u, x]) (Blk.new _ _ _) rfl (fun i hi => by
    have : i = 0 ∨ i = 1 ∨ i = 2 := by simp at hi; omega
    rcases this with rfl | rfl | rfl
    · exact h.below ((Below.refl _ _).alloc (Nat.le_refl _) _)
    · exact h'.below ((Below.refl _ _).alloc (Nat.le_refl _) _)
    · exact h''.below ((Below.refl _ _).alloc (Nat.le_refl _) _))
theorem conv32_64c (x : BitVec 32) : IntKind.u64.wrap (wb x) = wb (x.setWidth 64) := conv_u64 x
attribute [local go_sem] conv32_64c
set_option maxRecDepth 100000 in
set_option maxHeartbeats 2000000 in
theorem rHeader_any (k : List (BitVec 8)) (p n : BitVec 32) (hk : k.length = 32) (w : World) :
    Calls Try.prog 17 #[.agg (hdrL k p n).toArray] w (RetOwn w 5 .u8 (hdrB k p n)) := by
  have HK := Lib.hid hk
  have HF : Hid (k ++ [low (p.setWidth 64) 4, low (n.setWidth 64) 4].flatten = hdrB k p n) := by show _ = _; simp [hdrB]
  clear hk
  go_enter Try.func17, Try.ntmps17
  go_wp2_with fail
  have hb : Below w.heap.size w (w.alloc (.cells (hdrL k p n).toArray 29)) := (Below.refl _ _).alloc (Nat.le_refl _) _
  have hB := Blk.new w (hdrL k p n).toArray 29
  generalize w.alloc (.cells (hdrL k p n).toArray 29) = W0 at *
  have c1 : W0.cell? ⟨w.heap.size, 32, none⟩ = some (.int .u32 (wb p)) := hB.cellSeg (encL .u8 k) _ rfl (by rw [encL_length, HK.out])
  have c2 : W0.cell? ⟨w.heap.size, 33, none⟩ = some (.int .u32 (wb n)) := hB.cellSeg (encL .u8 k ++ [.int .u32 (wb p)]) [] (by simp [hdrL]) (by simp [encL_length, HK.out])
  have r0 : Rd W0 .u8 (some ⟨w.heap.size, 0, none⟩) k := hB.rdSeg [] _ rfl rfl
  refine mix_start (fun w' => Below W0.heap.size W0 w') [0, 1, 2, 3, 4, 6, 7, 8, 5, 9, 10, 11, 12] [5, 9, 10, 11] [3, 7] [] (by kernel_rfl) (by kernel_rfl) (fun d _ _ _ _ h => by cases d <;> exact h) (Below.refl _ _).drew ?_
  repeat (refine mix_pure rfl rfl (fun K hK => ?_); go_simp; refine hK _ ?_; clear hK K)
  refine mix_read (.int .u32 (wb p)) rfl rfl rfl rfl (fun w' hS => ?_) ?_
  · have hc' := below_cell hS c1
    go_simp
  repeat (refine mix_pure rfl rfl (fun K hK => ?_); go_simp; refine hK _ ?_; clear hK K)
  refine mix_read (.int .u32 (wb n)) rfl rfl rfl rfl (fun w' hS => ?_) ?_
  · have hc' := below_cell hS c2
    go_simp
  repeat (refine mix_pure rfl rfl (fun K hK => ?_); go_simp; refine hK _ ?_; clear hK K)
  refine mix_eff rfl rfl (fun K hK => ?_)
  go_simp
  refine (rlow14_any (p.setWidth 64) 4 _ (by omega)).mono ?_
  rintro e w1 ⟨v1, rfl, h1, hb1⟩
  replace h1 : OwnB w1 _ v1 (low (p.setWidth 64) 4) := h1
  have hB1 : Below W0.heap.size W0 w1 := (Below.refl _ _).drew.trans hb1
  refine hK _ _ (fun _ h => h.trans hb1) ?_
  clear hK K hb1 c1 c2
  repeat (refine mix_pure rfl rfl (fun K hK => ?_); go_simp; refine hK _ ?_; clear hK K)
  refine mix_eff rfl rfl (fun K hK => ?_)
  go_simp
  refine (rlow14_any (n.setWidth 64) 4 _ (by omega)).mono ?_
  rintro e w2 ⟨v2, rfl, h2, hb2⟩
  replace h2 : OwnB w2 _ v2 (low (n.setWidth 64) 4) := h2
  have h1' := h1.below hb2
  have hB2 : Below W0.heap.size W0 w2 := hB1.trans (hb2.mono hB1.size)
  refine hK _ _ (fun _ h => hB2) ?_
  clear hK K hb2 h1 hB1
  repeat (refine mix_pure rfl rfl (fun K hK => ?_); go_simp; refine hK _ ?_; clear hK K)
  refine mix_eff rfl rfl (fun K hK => ?_)
  have a1 := h1'.arg
  have a2 := h2.arg
  clear h1' h2
  obtain ⟨A1, q1, rfl, _, _⟩ := id a1
  obtain ⟨A2, q2, rfl, _, _⟩ := id a2
  rw [low_length] at a1 a2
  go_simp
  have hS := args2 a1 a2
  have hB3 : Below W0.heap.size W0 (w2.alloc (.cells #[.slice A1 4 q1, .slice A2 4 q2] 38)) := hB2.alloc hB2.size _
  refine hK _ _ (fun _ h => hB3) ?_
  clear hK K
  repeat (refine mix_pure rfl rfl (fun K hK => ?_); go_simp; refine hK _ ?_; clear hK K)
  refine mix_eff rfl rfl (fun K hK => ?_)
  go_simp
  refine (rboth14_any k _ _ _ 2 _ (arg_of (r0.below hB3) HK.out (Nat.le_refl 32)) hS (by simp [low_length, HK.out]) (by simp)).mono ?_
  rintro e w3 ⟨v3, rfl, h3, hb3⟩
  rw [HF.out] at h3
  have hB4 : Below W0.heap.size W0 w3 := hB3.trans (hb3.mono hB3.size)
  refine hK _ _ (fun _ h => hB4) ?_
  clear hK K
  repeat (refine mix_pure rfl rfl (fun K hK => ?_); go_simp; refine hK _ ?_; clear hK K)
  refine mix_nil ?_
  go_wp2_with fail
  go_ret
  exact ⟨_, rfl, owns_base h3 (Nat.le_trans (Nat.le_of_lt hB.lt) hB3.size), hb.trans (hB4.mono hb.size)⟩
set_option maxRecDepth 100000 in
set_option maxHeartbeats 2000000 in
theorem rMessage_any (k body : List (BitVec 8)) (p n : BitVec 32) (hk : k.length = 32) (hbd : body.length = 65) (w : World) :
    Calls Try.prog 19 #[.agg (msgL k p n body).toArray] w (RetOwn w 5 .u8 (hdrB k p n ++ body)) := by
  have HK := Lib.hid hk
  have HB := Lib.hid hbd
  have HHL := Lib.hid (hdrL_length k p n hk)
  have HHB := Lib.hid (hdrB_length k p n hk)
  have HF : Hid (hdrB k p n ++ [body].flatten = hdrB k p n ++ body) := by show _ = _; simp
  clear hk hbd
  go_enter Try.func19, Try.ntmps19
  go_wp2_with fail
  have hb : Below w.heap.size w (w.alloc (.cells (msgL k p n body).toArray 32)) := (Below.refl _ _).alloc (Nat.le_refl _) _
  have hB := Blk.new w (msgL k p n body).toArray 32
  generalize w.alloc (.cells (msgL k p n body).toArray 32) = W0 at *
  have r1 : Rd W0 .u8 (some ⟨w.heap.size, 34, none⟩) body := hB.rdSeg (hdrL k p n) [] (by simp [msgL]) HHL.out
  refine mix_plan (fun w' => Below W0.heap.size W0 w') (.step 0 (.step 1 (.step 3 (.step 4 (.fork 2 5 (.step 5 (.step 6 (.step 7 (.done)))) (.step 2 (.step 6 (.step 7 (.done))))))))) [2, 5, 6] [1] [] (by kernel_rfl) (by kernel_rfl) (fun d _ _ _ _ h => by cases d <;> exact h) (Below.refl _ _).drew ?_
  repeat (refine mix_pure rfl rfl (fun K hK => ?_); go_simp; refine hK _ ?_; clear hK K)
  refine mix_load_part rfl rfl rfl rfl 29 _ rfl w.heap.size 0 rfl 32 (msgL k p n body).toArray (0, 0) _ (hdrL k p n) (fun w' hS => hB.below hS hB.lt) (fun j v h => by rw [Nat.zero_add, List.getElem?_toArray, msgL, List.getElem?_append_left (List.getElem?_eq_some_iff.1 h).1]; exact h) Try.underlying29 rfl (by rw [HHL.out]; exact sizeHdr) ?_
  repeat (refine mix_pure rfl rfl (fun K hK => ?_); go_simp; refine hK _ ?_; clear hK K)
  refine mix_fork rfl rfl (fun K hK => ?_) (fun K hK => ?_)
  · go_simp
    refine (rHeader_any k p n HK.out _).mono ?_
    rintro e w1 ⟨v1, rfl, h1, hb1⟩
    replace h1 : OwnB w1 _ v1 (hdrB k p n) := h1
    have hB1 : Below W0.heap.size W0 w1 := (Below.refl _ _).drew.trans hb1
    refine hK _ _ (fun _ h => hB1) ?_
    clear hK K hb1
    repeat (refine mix_pure rfl rfl (fun K hK => ?_); go_simp; refine hK _ ?_; clear hK K)
    refine mix_eff rfl rfl (fun K hK => ?_)
    go_simp
    have hS := args1 (arg_of (r1.below hB1) HB.out (Nat.le_refl 65))
    have hB2 : Below W0.heap.size W0 (w1.alloc (.cells #[.slice (some ⟨w.heap.size, 34, none⟩) 65 65] 38)) := hB1.alloc hB1.size _
    have ha1 := h1.arg.below ((Below.refl w1.heap.size w1).alloc (Nat.le_refl _) (.cells #[.slice (some ⟨w.heap.size, 34, none⟩) 65 65] 38))
    refine hK _ _ (fun _ h => hB2) ?_
    clear hK K
    repeat (refine mix_pure rfl rfl (fun K hK => ?_); go_simp; refine hK _ ?_; clear hK K)
    refine mix_eff rfl rfl (fun K hK => ?_)
    go_simp
    refine (rboth14_any _ _ _ _ 1 _ ha1 hS (by simp [HHB.out, HB.out]) (by simp)).mono ?_
    rintro e w3 ⟨v3, rfl, h3, hb3⟩
    rw [HF.out] at h3
    have hB4 : Below W0.heap.size W0 w3 := hB2.trans (hb3.mono hB2.size)
    refine hK _ _ (fun _ h => hB4) ?_
    clear hK K
    repeat (refine mix_pure rfl rfl (fun K hK => ?_); go_simp; refine hK _ ?_; clear hK K)
    refine mix_nil ?_
    go_wp2_with fail
    go_ret
    exact ⟨_, rfl, owns_base h3 (Nat.le_trans (Nat.le_of_lt hB.lt) hB2.size), hb.trans (hB4.mono hb.size)⟩
  · go_simp
    have hB1 : Below W0.heap.size W0 (W0.drew.alloc (.cells #[.slice (some ⟨w.heap.size, 34, none⟩) 65 65] 38)) := (Below.refl _ _).drew.alloc (Nat.le_refl _) _
    have hS := args1 (arg_of (w := W0.drew) (r1.below (Below.refl _ _).drew) HB.out (Nat.le_refl 65))
    refine hK _ _ (fun _ h => hB1) ?_
    clear hK K
    repeat (refine mix_pure rfl rfl (fun K hK => ?_); go_simp; refine hK _ ?_; clear hK K)
    refine mix_eff rfl rfl (fun K hK => ?_)
    go_simp
    refine (rHeader_any k p n HK.out _).mono ?_
    rintro e w1 ⟨v1, rfl, h1, hb1⟩
    replace h1 : OwnB w1 _ v1 (hdrB k p n) := h1
    have hB2 : Below W0.heap.size W0 w1 := hB1.trans (hb1.mono hB1.size)
    refine hK _ _ (fun _ h => hB2) ?_
    clear hK K
    repeat (refine mix_pure rfl rfl (fun K hK => ?_); go_simp; refine hK _ ?_; clear hK K)
    refine mix_eff rfl rfl (fun K hK => ?_)
    go_simp
    refine (rboth14_any _ _ _ _ 1 _ h1.arg (hS.below hb1) (by simp [HHB.out, HB.out]) (by simp)).mono ?_
    rintro e w3 ⟨v3, rfl, h3, hb3⟩
    rw [HF.out] at h3
    have hB4 : Below W0.heap.size W0 w3 := hB2.trans (hb3.mono hB2.size)
    refine hK _ _ (fun _ h => hB4) ?_
    clear hK K
    repeat (refine mix_pure rfl rfl (fun K hK => ?_); go_simp; refine hK _ ?_; clear hK K)
    refine mix_nil ?_
    go_wp2_with fail
    go_ret
    exact ⟨_, rfl, owns_base h3 (Nat.le_trans (Nat.le_of_lt hB.lt) hB2.size), hb.trans (hB4.mono hb.size)⟩
set_option maxRecDepth 100000 in
set_option maxHeartbeats 2000000 in
theorem rExchange_any (drop body : List (BitVec 8)) (hk : drop.length = 16) (hbd : body.length = 130) (w : World) :
    Calls Try.prog 21 #[.agg (excL drop body).toArray] w (RetOwn w 5 .u8 (drop ++ body)) := by
  have HK := Lib.hid hk
  have HB := Lib.hid hbd
  have HF : Hid (drop ++ [body].flatten = drop ++ body) := by show _ = _; simp
  clear hk hbd
  go_enter Try.func21, Try.ntmps21
  go_wp2_with fail
  have hb : Below w.heap.size w (w.alloc (.cells (excL drop body).toArray 37)) := (Below.refl _ _).alloc (Nat.le_refl _) _
  have hB := Blk.new w (excL drop body).toArray 37
  generalize w.alloc (.cells (excL drop body).toArray 37) = W0 at *
  have r0 : Rd W0 .u8 (some ⟨w.heap.size, 0, none⟩) drop := hB.rdSeg [] (encL .u8 body) (by simp [excL]) rfl
  have r1 : Rd W0 .u8 (some ⟨w.heap.size, 16, none⟩) body := hB.rdSeg (encL .u8 drop) [] (by simp [excL]) (by rw [encL_length, HK.out])
  refine mix_start (fun w' => Below W0.heap.size W0 w') (List.range 7) [4, 5] [] [] (by kernel_rfl) (by kernel_rfl) (fun d _ _ _ _ h => by cases d <;> exact h) (Below.refl _ _).drew ?_
  repeat (refine mix_pure rfl rfl (fun K hK => ?_); go_simp; refine hK _ ?_; clear hK K)
  refine mix_eff rfl rfl (fun K hK => ?_)
  go_simp
  have hB1 : Below W0.heap.size W0 (W0.drew.alloc (.cells #[.slice (some ⟨w.heap.size, 16, none⟩) 130 130] 38)) := (Below.refl _ _).drew.alloc (Nat.le_refl _) _
  have hS := args1 (arg_of (w := W0.drew) (r1.below (Below.refl _ _).drew) HB.out (Nat.le_refl 130))
  refine hK _ _ (fun _ h => hB1) ?_
  clear hK K
  repeat (refine mix_pure rfl rfl (fun K hK => ?_); go_simp; refine hK _ ?_; clear hK K)
  refine mix_eff rfl rfl (fun K hK => ?_)
  go_simp
  refine (rboth14_any _ _ _ _ 1 _ (arg_of (r0.below hB1) HK.out (Nat.le_refl 16)) hS (by simp [HK.out, HB.out]) (by simp)).mono ?_
  rintro e w3 ⟨v3, rfl, h3, hb3⟩
  rw [HF.out] at h3
  have hB4 : Below W0.heap.size W0 w3 := hB1.trans (hb3.mono hB1.size)
  refine hK _ _ (fun _ h => hB4) ?_
  clear hK K
  repeat (refine mix_pure rfl rfl (fun K hK => ?_); go_simp; refine hK _ ?_; clear hK K)
  refine mix_nil ?_
  go_wp2_with fail
  go_ret
  exact ⟨_, rfl, owns_base h3 (Nat.le_trans (Nat.le_of_lt hB.lt) hB1.size), hb.trans (hB4.mono hb.size)⟩
end Go.Proofs.Ytjnbgoiaocpcjaa
