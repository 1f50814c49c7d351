/- frame's reference: Envelope (printed by genenv.py). -/
import Derived.Test.YtjnbgoiaocpcjaaEnvPut
import Derived.Test.YtjnbgoiaocpcjaaFrRefM
namespace Go.Proofs.Ytjnbgoiaocpcjaa
open Go.RowKit
theorem conv32_64e (x : BitVec 32) : IntKind.u64.wrap (wb x) = wb (x.setWidth 64) := conv_u64 x
attribute [local go_sem] conv32_64e wrap_ofInt8
set_option maxRecDepth 100000 in
set_option maxHeartbeats 4000000 in
theorem rEnvelope_any (kd : Int) (a s : BitVec 32) (body : List (BitVec 8)) (hb : body.length = 105) (w : World) :
    Calls Try.prog 37 #[.agg (envL kd a s body).toArray] w (RetOwn w 5 .u8 (envB kd a s body)) := by
  have HB := Lib.hid hb
  have HF : Hid ([BitVec.ofInt 8 kd] ++ [low (a.setWidth 64) 4, low (s.setWidth 64) 4, body].flatten = envB kd a s body) := by show _ = _; simp [envB]
  clear hb
  go_enter Try.func37, Try.ntmps37
  go_wp2_with fail
  have hb0 : Below w.heap.size w (w.alloc (.cells (envL kd a s body).toArray 68)) := (Below.refl _ _).alloc (Nat.le_refl _) _
  have hB := Blk.new w (envL kd a s body).toArray 68
  generalize w.alloc (.cells (envL kd a s body).toArray 68) = W0 at *
  have c0 : W0.cell? ⟨w.heap.size, 0, none⟩ = some (.int .i64 kd) := hB.cellSeg [] _ rfl rfl
  have c1 : W0.cell? ⟨w.heap.size, 1, none⟩ = some (.int .u32 (wb a)) := hB.cellSeg [.int .i64 kd] _ rfl rfl
  have c2 : W0.cell? ⟨w.heap.size, 2, none⟩ = some (.int .u32 (wb s)) := hB.cellSeg [.int .i64 kd, .int .u32 (wb a)] (encL .u8 body) rfl rfl
  have r3 : Rd W0 .u8 (some ⟨w.heap.size, 3, none⟩) body := hB.rdSeg [.int .i64 kd, .int .u32 (wb a), .int .u32 (wb s)] [] (by simp [envL]) rfl
  have hlt := hB.lt
  clear hB
  refine mix_plan (fun w' => Below W0.heap.size W0 w') (.step 0 (.step 1 (.step 2 (.step 4 (.step 5 (.step 6 (.step 8 (.step 9 (.step 10 (.step 12 (.step 13 (.fork 3 7 (.step 7 (.step 11 (.step 14 (.step 15 (.step 16 (.done)))))) (.fork 3 11 (.step 11 (.step 14 (.step 15 (.step 16 (.done))))) (.fork 3 14 (.step 14 (.step 15 (.step 16 (.done)))) (.step 3 (.step 15 (.step 16 (.done)))))))))))))))))) [3, 7, 11, 14, 15] [1, 5, 9] [] (by kernel_rfl) (by kernel_rfl) (fun d _ _ _ _ h => by cases d <;> exact h) (Below.refl _ _).drew ?_
  have hw : Below W0.heap.size W0 W0.drew := (Below.refl _ _).drew
  repeat (refine mix_pure rfl rfl (fun K hK => ?_); go_simp; refine hK _ ?_; clear hK K)
  refine mix_read (.int .i64 kd) rfl rfl rfl rfl (fun w' hS => ?_) ?_
  · have hc' := below_cell hS c0
    go_simp
  repeat (refine mix_pure rfl rfl (fun K hK => ?_); go_simp; refine hK _ ?_; clear hK K)
  refine mix_read (.int .u32 (wb a)) rfl rfl rfl rfl (fun w' hS => ?_) ?_
  · have hc' := below_cell hS c1
    go_simp
  repeat (refine mix_pure rfl rfl (fun K hK => ?_); go_simp; refine hK _ ?_; clear hK K)
  refine mix_read (.int .u32 (wb s)) rfl rfl rfl rfl (fun w' hS => ?_) ?_
  · have hc' := below_cell hS c2
    go_simp
  repeat (refine mix_pure rfl rfl (fun K hK => ?_); go_simp; refine hK _ ?_; clear hK K)
  clear c0 c1 c2
  generalize W0.drew = w0 at *
  refine mix_fork rfl rfl (fun K hK => ?_) (fun K hK => ?_)
  · go_simp
    have hn : Below w0.heap.size w0 (w0.alloc (.cells #[.int .u8 (wb (BitVec.ofInt 8 kd))] 5)) := (Below.refl _ _).alloc (Nat.le_refl _) _
    have a3 : Arg (w0.alloc (.cells #[.int .u8 (wb (BitVec.ofInt 8 kd))] 5)) (.slice (some ⟨w0.heap.size, 0, none⟩) 1 1) [BitVec.ofInt 8 kd] := (OwnB.lit (base := 0) [BitVec.ofInt 8 kd] (Nat.zero_le _) (by simp)).arg
    generalize w0.alloc (.cells #[.int .u8 (wb (BitVec.ofInt 8 kd))] 5) = x1 at *
    generalize Value.slice (some ⟨w0.heap.size, 0, none⟩) 1 1 = v3 at *
    replace hw := hw.trans (hn.mono hw.size)
    refine hK _ _ (fun _ _ => hw) ?_
    clear hK K hn
    repeat (refine mix_pure rfl rfl (fun K hK => ?_); go_simp; refine hK _ ?_; clear hK K)
    refine mix_eff rfl rfl (fun K hK => ?_)
    go_simp
    refine (rlow14_any (a.setWidth 64) 4 _ (by omega)).mono ?_
    rintro e x2 ⟨v7, rfl, h7, hn⟩
    have a7 : Arg x2 v7 (low (a.setWidth 64) 4) := OwnB.arg h7
    clear h7
    obtain ⟨A7, q7, rfl, _, _⟩ := id a7
    rw [low_length] at a7 ⊢
    replace a3 := a3.below hn
    replace hw := hw.trans (hn.mono hw.size)
    refine hK _ _ (fun _ _ => hw) ?_
    clear hK K hn
    repeat (refine mix_pure rfl rfl (fun K hK => ?_); go_simp; refine hK _ ?_; clear hK K)
    refine mix_eff rfl rfl (fun K hK => ?_)
    go_simp
    refine (rlow14_any (s.setWidth 64) 4 _ (by omega)).mono ?_
    rintro e x3 ⟨v11, rfl, h11, hn⟩
    have a11 : Arg x3 v11 (low (s.setWidth 64) 4) := OwnB.arg h11
    clear h11
    obtain ⟨A11, q11, rfl, _, _⟩ := id a11
    rw [low_length] at a11 ⊢
    replace a3 := a3.below hn
    replace a7 := a7.below hn
    replace hw := hw.trans (hn.mono hw.size)
    refine hK _ _ (fun _ _ => hw) ?_
    clear hK K hn
    repeat (refine mix_pure rfl rfl (fun K hK => ?_); go_simp; refine hK _ ?_; clear hK K)
    refine mix_eff rfl rfl (fun K hK => ?_)
    go_simp
    have hn : Below x3.heap.size x3 (x3.alloc (.cells #[.slice A7 4 q7, .slice A11 4 q11, .slice (some ⟨w.heap.size, 3, none⟩) 105 105] 38)) := (Below.refl _ _).alloc (Nat.le_refl _) _
    have a14 := args3 a7 a11 (arg_of (r3.below hw) HB.out (Nat.le_refl 105))
    generalize x3.alloc (.cells #[.slice A7 4 q7, .slice A11 4 q11, .slice (some ⟨w.heap.size, 3, none⟩) 105 105] 38) = x4 at *
    replace a3 := a3.below hn
    replace a7 := a7.below hn
    replace a11 := a11.below hn
    replace hw := hw.trans (hn.mono hw.size)
    refine hK _ _ (fun _ _ => hw) ?_
    clear hK K hn
    repeat (refine mix_pure rfl rfl (fun K hK => ?_); go_simp; refine hK _ ?_; clear hK K)
    refine mix_eff rfl rfl (fun K hK => ?_)
    go_simp
    refine (rboth14_any _ _ _ _ 3 _ a3 a14 (by simp [low_length, HB.out]) (by simp)).mono ?_
    rintro e wz ⟨vz, rfl, hz, hn⟩
    rw [HF.out] at hz
    have hsz := hw.size
    replace hw := hw.trans (hn.mono hw.size)
    refine hK _ _ (fun _ _ => hw) ?_
    clear hK K hn
    repeat (refine mix_pure rfl rfl (fun K hK => ?_); go_simp; refine hK _ ?_; clear hK K)
    refine mix_nil ?_
    go_wp2_with fail
    go_ret
    exact ⟨_, rfl, owns_base hz (Nat.le_trans (Nat.le_of_lt hlt) hsz), hb0.trans (hw.mono hb0.size)⟩
  · go_simp
    refine (rlow14_any (a.setWidth 64) 4 _ (by omega)).mono ?_
    rintro e x6 ⟨v7, rfl, h7, hn⟩
    have a7 : Arg x6 v7 (low (a.setWidth 64) 4) := OwnB.arg h7
    clear h7
    obtain ⟨A7, q7, rfl, _, _⟩ := id a7
    rw [low_length] at a7 ⊢
    replace hw := hw.trans (hn.mono hw.size)
    refine hK _ _ (fun _ _ => hw) ?_
    clear hK K hn
    repeat (refine mix_pure rfl rfl (fun K hK => ?_); go_simp; refine hK _ ?_; clear hK K)
    refine mix_fork rfl rfl (fun K hK => ?_) (fun K hK => ?_)
    · go_simp
      have hn : Below x6.heap.size x6 (x6.alloc (.cells #[.int .u8 (wb (BitVec.ofInt 8 kd))] 5)) := (Below.refl _ _).alloc (Nat.le_refl _) _
      have a3 : Arg (x6.alloc (.cells #[.int .u8 (wb (BitVec.ofInt 8 kd))] 5)) (.slice (some ⟨x6.heap.size, 0, none⟩) 1 1) [BitVec.ofInt 8 kd] := (OwnB.lit (base := 0) [BitVec.ofInt 8 kd] (Nat.zero_le _) (by simp)).arg
      generalize x6.alloc (.cells #[.int .u8 (wb (BitVec.ofInt 8 kd))] 5) = x7 at *
      generalize Value.slice (some ⟨x6.heap.size, 0, none⟩) 1 1 = v3 at *
      replace a7 := a7.below hn
      replace hw := hw.trans (hn.mono hw.size)
      refine hK _ _ (fun _ _ => hw) ?_
      clear hK K hn
      repeat (refine mix_pure rfl rfl (fun K hK => ?_); go_simp; refine hK _ ?_; clear hK K)
      refine mix_eff rfl rfl (fun K hK => ?_)
      go_simp
      refine (rlow14_any (s.setWidth 64) 4 _ (by omega)).mono ?_
      rintro e x8 ⟨v11, rfl, h11, hn⟩
      have a11 : Arg x8 v11 (low (s.setWidth 64) 4) := OwnB.arg h11
      clear h11
      obtain ⟨A11, q11, rfl, _, _⟩ := id a11
      rw [low_length] at a11 ⊢
      replace a7 := a7.below hn
      replace a3 := a3.below hn
      replace hw := hw.trans (hn.mono hw.size)
      refine hK _ _ (fun _ _ => hw) ?_
      clear hK K hn
      repeat (refine mix_pure rfl rfl (fun K hK => ?_); go_simp; refine hK _ ?_; clear hK K)
      refine mix_eff rfl rfl (fun K hK => ?_)
      go_simp
      have hn : Below x8.heap.size x8 (x8.alloc (.cells #[.slice A7 4 q7, .slice A11 4 q11, .slice (some ⟨w.heap.size, 3, none⟩) 105 105] 38)) := (Below.refl _ _).alloc (Nat.le_refl _) _
      have a14 := args3 a7 a11 (arg_of (r3.below hw) HB.out (Nat.le_refl 105))
      generalize x8.alloc (.cells #[.slice A7 4 q7, .slice A11 4 q11, .slice (some ⟨w.heap.size, 3, none⟩) 105 105] 38) = x9 at *
      replace a7 := a7.below hn
      replace a3 := a3.below hn
      replace a11 := a11.below hn
      replace hw := hw.trans (hn.mono hw.size)
      refine hK _ _ (fun _ _ => hw) ?_
      clear hK K hn
      repeat (refine mix_pure rfl rfl (fun K hK => ?_); go_simp; refine hK _ ?_; clear hK K)
      refine mix_eff rfl rfl (fun K hK => ?_)
      go_simp
      refine (rboth14_any _ _ _ _ 3 _ a3 a14 (by simp [low_length, HB.out]) (by simp)).mono ?_
      rintro e wz ⟨vz, rfl, hz, hn⟩
      rw [HF.out] at hz
      have hsz := hw.size
      replace hw := hw.trans (hn.mono hw.size)
      refine hK _ _ (fun _ _ => hw) ?_
      clear hK K hn
      repeat (refine mix_pure rfl rfl (fun K hK => ?_); go_simp; refine hK _ ?_; clear hK K)
      refine mix_nil ?_
      go_wp2_with fail
      go_ret
      exact ⟨_, rfl, owns_base hz (Nat.le_trans (Nat.le_of_lt hlt) hsz), hb0.trans (hw.mono hb0.size)⟩
    · go_simp
      refine (rlow14_any (s.setWidth 64) 4 _ (by omega)).mono ?_
      rintro e x11 ⟨v11, rfl, h11, hn⟩
      have a11 : Arg x11 v11 (low (s.setWidth 64) 4) := OwnB.arg h11
      clear h11
      obtain ⟨A11, q11, rfl, _, _⟩ := id a11
      rw [low_length] at a11 ⊢
      replace a7 := a7.below hn
      replace hw := hw.trans (hn.mono hw.size)
      refine hK _ _ (fun _ _ => hw) ?_
      clear hK K hn
      repeat (refine mix_pure rfl rfl (fun K hK => ?_); go_simp; refine hK _ ?_; clear hK K)
      refine mix_fork rfl rfl (fun K hK => ?_) (fun K hK => ?_)
      · go_simp
        have hn : Below x11.heap.size x11 (x11.alloc (.cells #[.int .u8 (wb (BitVec.ofInt 8 kd))] 5)) := (Below.refl _ _).alloc (Nat.le_refl _) _
        have a3 : Arg (x11.alloc (.cells #[.int .u8 (wb (BitVec.ofInt 8 kd))] 5)) (.slice (some ⟨x11.heap.size, 0, none⟩) 1 1) [BitVec.ofInt 8 kd] := (OwnB.lit (base := 0) [BitVec.ofInt 8 kd] (Nat.zero_le _) (by simp)).arg
        generalize x11.alloc (.cells #[.int .u8 (wb (BitVec.ofInt 8 kd))] 5) = x12 at *
        generalize Value.slice (some ⟨x11.heap.size, 0, none⟩) 1 1 = v3 at *
        replace a7 := a7.below hn
        replace a11 := a11.below hn
        replace hw := hw.trans (hn.mono hw.size)
        refine hK _ _ (fun _ _ => hw) ?_
        clear hK K hn
        repeat (refine mix_pure rfl rfl (fun K hK => ?_); go_simp; refine hK _ ?_; clear hK K)
        refine mix_eff rfl rfl (fun K hK => ?_)
        go_simp
        have hn : Below x12.heap.size x12 (x12.alloc (.cells #[.slice A7 4 q7, .slice A11 4 q11, .slice (some ⟨w.heap.size, 3, none⟩) 105 105] 38)) := (Below.refl _ _).alloc (Nat.le_refl _) _
        have a14 := args3 a7 a11 (arg_of (r3.below hw) HB.out (Nat.le_refl 105))
        generalize x12.alloc (.cells #[.slice A7 4 q7, .slice A11 4 q11, .slice (some ⟨w.heap.size, 3, none⟩) 105 105] 38) = x13 at *
        replace a7 := a7.below hn
        replace a11 := a11.below hn
        replace a3 := a3.below hn
        replace hw := hw.trans (hn.mono hw.size)
        refine hK _ _ (fun _ _ => hw) ?_
        clear hK K hn
        repeat (refine mix_pure rfl rfl (fun K hK => ?_); go_simp; refine hK _ ?_; clear hK K)
        refine mix_eff rfl rfl (fun K hK => ?_)
        go_simp
        refine (rboth14_any _ _ _ _ 3 _ a3 a14 (by simp [low_length, HB.out]) (by simp)).mono ?_
        rintro e wz ⟨vz, rfl, hz, hn⟩
        rw [HF.out] at hz
        have hsz := hw.size
        replace hw := hw.trans (hn.mono hw.size)
        refine hK _ _ (fun _ _ => hw) ?_
        clear hK K hn
        repeat (refine mix_pure rfl rfl (fun K hK => ?_); go_simp; refine hK _ ?_; clear hK K)
        refine mix_nil ?_
        go_wp2_with fail
        go_ret
        exact ⟨_, rfl, owns_base hz (Nat.le_trans (Nat.le_of_lt hlt) hsz), hb0.trans (hw.mono hb0.size)⟩
      · go_simp
        have hn : Below x11.heap.size x11 (x11.alloc (.cells #[.slice A7 4 q7, .slice A11 4 q11, .slice (some ⟨w.heap.size, 3, none⟩) 105 105] 38)) := (Below.refl _ _).alloc (Nat.le_refl _) _
        have a14 := args3 a7 a11 (arg_of (r3.below hw) HB.out (Nat.le_refl 105))
        generalize x11.alloc (.cells #[.slice A7 4 q7, .slice A11 4 q11, .slice (some ⟨w.heap.size, 3, none⟩) 105 105] 38) = x15 at *
        replace a7 := a7.below hn
        replace a11 := a11.below hn
        replace hw := hw.trans (hn.mono hw.size)
        refine hK _ _ (fun _ _ => hw) ?_
        clear hK K hn
        repeat (refine mix_pure rfl rfl (fun K hK => ?_); go_simp; refine hK _ ?_; clear hK K)
        refine mix_eff rfl rfl (fun K hK => ?_)
        go_simp
        have hn : Below x15.heap.size x15 (x15.alloc (.cells #[.int .u8 (wb (BitVec.ofInt 8 kd))] 5)) := (Below.refl _ _).alloc (Nat.le_refl _) _
        have a3 : Arg (x15.alloc (.cells #[.int .u8 (wb (BitVec.ofInt 8 kd))] 5)) (.slice (some ⟨x15.heap.size, 0, none⟩) 1 1) [BitVec.ofInt 8 kd] := (OwnB.lit (base := 0) [BitVec.ofInt 8 kd] (Nat.zero_le _) (by simp)).arg
        generalize x15.alloc (.cells #[.int .u8 (wb (BitVec.ofInt 8 kd))] 5) = x16 at *
        generalize Value.slice (some ⟨x15.heap.size, 0, none⟩) 1 1 = v3 at *
        replace a7 := a7.below hn
        replace a11 := a11.below hn
        replace a14 := a14.below hn
        replace hw := hw.trans (hn.mono hw.size)
        refine hK _ _ (fun _ _ => hw) ?_
        clear hK K hn
        repeat (refine mix_pure rfl rfl (fun K hK => ?_); go_simp; refine hK _ ?_; clear hK K)
        refine mix_eff rfl rfl (fun K hK => ?_)
        go_simp
        refine (rboth14_any _ _ _ _ 3 _ a3 a14 (by simp [low_length, HB.out]) (by simp)).mono ?_
        rintro e wz ⟨vz, rfl, hz, hn⟩
        rw [HF.out] at hz
        have hsz := hw.size
        replace hw := hw.trans (hn.mono hw.size)
        refine hK _ _ (fun _ _ => hw) ?_
        clear hK K hn
        repeat (refine mix_pure rfl rfl (fun K hK => ?_); go_simp; refine hK _ ?_; clear hK K)
        refine mix_nil ?_
        go_wp2_with fail
        go_ret
        exact ⟨_, rfl, owns_base hz (Nat.le_trans (Nat.le_of_lt hlt) hsz), hb0.trans (hw.mono hb0.size)⟩
end Go.Proofs.Ytjnbgoiaocpcjaa
