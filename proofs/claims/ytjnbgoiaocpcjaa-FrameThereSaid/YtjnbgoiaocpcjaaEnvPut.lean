/- frame.PutEnvelope. -/
import Derived.Test.YtjnbgoiaocpcjaaEnvMay
namespace Go.Proofs.Ytjnbgoiaocpcjaa
open Go.RowKit
theorem wrap_ofInt8 (i : Int) : IntKind.u8.wrap i = wb (BitVec.ofInt 8 i) := by
  rw [IntKind.wrap_u8]
  unfold wb
  rw [BitVec.toNat_ofInt]
  omega
def envB (kd : Int) (a s : BitVec 32) (body : List (BitVec 8)) : List (BitVec 8) := [BitVec.ofInt 8 kd] ++ low (a.setWidth 64) 4 ++ low (s.setWidth 64) 4 ++ body
def EnvPut (kd : Int) (a s : BitVec 32) (body : List (BitVec 8)) (w : World) (e : Ending) (w' : World) : Prop :=
  (if mayE kd s body = true then ∃ v, e = .returned (.tuple #[v, .int .i64 0]) ∧ OwnB w' w.heap.size v (envB kd a s body) else e = .returned (.tuple #[.slice none 0 0, .int .i64 241])) ∧ Below w.heap.size w w'
attribute [local go_sem] wrap_ofInt8
set_option maxRecDepth 100000 in
set_option maxHeartbeats 2000000 in
theorem putEnvelope_any (kd : Int) (a s : BitVec 32) (body : List (BitVec 8)) (hb : body.length = 105) (w : World) :
    Calls Try.prog 35 #[.agg (envL kd a s body).toArray] w (EnvPut kd a s body w) := by
  have HB := Lib.hid hb
  have HL := Lib.hid (envL_length kd a s body hb)
  have HM := Lib.hid (fun w' => may_any kd a s body hb w')
  have hpost1 : Hid (mayE kd s body = true → ∀ v w', OwnB w' w.heap.size v (envB kd a s body) → Below w.heap.size w w' → EnvPut kd a s body w (.returned (.tuple #[v, .int .i64 0])) w') := fun h v w' h1 h2 => ⟨by rw [if_pos h]; exact ⟨v, rfl, h1⟩, h2⟩
  have hpost0 : Hid (mayE kd s body = false → ∀ w', Below w.heap.size w w' → EnvPut kd a s body w (.returned (.tuple #[.slice none 0 0, .int .i64 241])) w') := fun h w' h2 => ⟨by rw [if_neg (by rw [h]; simp)], h2⟩
  clear hb
  generalize hr : mayE kd s body = r at *
  clear hr
  have hb0 : Below w.heap.size w (w.alloc (.cells (envL kd a s body).toArray 68)) := (Below.refl _ _).alloc (Nat.le_refl _) _
  have hB := Blk.new w (envL kd a s body).toArray 68
  go_enter Try.func35, Try.ntmps35
  go_wp2_with (first | (refine wpList_load_row rfl 68 _ rfl _ rfl 68 _ (0, 0) _ hB Try.underlying68 rfl (by rw [List.size_toArray, HL.out]; exact sizeEnv) ?_) | fail)
  generalize w.alloc (.cells (envL kd a s body).toArray 68) = W1 at *
  refine (HM.out W1).mono ?_
  rintro e W0 ⟨rfl, hbm⟩
  replace hB := hB.below hbm hB.lt
  replace hb0 := hb0.trans (hbm.mono hb0.size)
  clear hbm HM
  cases r
  · go_wp2_with fail
    refine bodyPost_ret (results_tmp2 rfl _ _ _) rfl ?_
    exact hpost0.out (by simp) _ hb0
  · have c0 : W0.cell? ⟨w.heap.size, 0, none⟩ = some (.int .i64 kd) := hB.cellSeg [] _ rfl rfl
    have c1 : W0.cell? ⟨w.heap.size, 1, none⟩ = some (.int .u32 (wb a)) := hB.cellSeg [.int .i64 kd] _ rfl rfl
    have c2 : W0.cell? ⟨w.heap.size, 2, none⟩ = some (.int .u32 (wb s)) := hB.cellSeg [.int .i64 kd, .int .u32 (wb a)] (encL .u8 body) rfl rfl
    have r3 : Rd W0 .u8 (some ⟨w.heap.size, 3, none⟩) body := hB.rdSeg [.int .i64 kd, .int .u32 (wb a), .int .u32 (wb s)] [] (by simp [envL]) rfl
    go_wp2_with fail
    refine mix_start (fun w' => Below W0.heap.size W0 w') [0, 1, 2, 4, 5, 7, 8, 3, 6, 9, 10] [3, 6, 9] [1, 5, 8] [] (by kernel_rfl) (by kernel_rfl) (fun d _ _ _ _ h => by cases d <;> exact h) (Below.refl _ _).drew ?_
    repeat (refine mix_pure rfl rfl (fun K hK => ?_); go_simp; refine hK _ ?_; clear hK K)
    refine mix_read (.int .i64 kd) rfl rfl rfl rfl (fun w' hS => ?_) ?_
    · have hc' := below_cell hS c0
      go_simp
    repeat (refine mix_pure rfl rfl (fun K hK => ?_); go_simp; refine hK _ ?_; clear hK K)
    refine mix_read (.int .u32 (wb a)) rfl rfl rfl rfl (fun w' hS => ?_) ?_
    · have hc' := below_cell hS c1
      go_simp
    repeat (refine mix_pure rfl rfl (fun K hK => ?_); go_simp; refine hK _ ?_; clear hK K)
    refine mix_read (.int .u32 (wb s)) rfl rfl rfl rfl (fun w' hS => ?_) ?_
    · have hc' := below_cell hS c2
      go_simp
    repeat (refine mix_pure rfl rfl (fun K hK => ?_); go_simp; refine hK _ ?_; clear hK K)
    refine mix_eff rfl rfl (fun K hK => ?_)
    go_simp
    have hb1 : Below W0.heap.size W0 (W0.alloc (.cells #[.int .u8 (wb (BitVec.ofInt 8 kd))] 5)).drew := ((Below.refl _ _).alloc (Nat.le_refl _) _).drew
    have ha1 : Arg (W0.alloc (.cells #[.int .u8 (wb (BitVec.ofInt 8 kd))] 5)).drew (.slice (some ⟨W0.heap.size, 0, none⟩) 1 1) [BitVec.ofInt 8 kd] := (OwnB.lit (base := 0) [BitVec.ofInt 8 kd] (Nat.zero_le _) (by simp)).arg
    refine hK _ _ (fun _ _ => hb1) ?_
    clear hK K
    repeat (refine mix_pure rfl rfl (fun K hK => ?_); go_simp; refine hK _ ?_; clear hK K)
    refine mix_eff rfl rfl (fun K hK => ?_)
    go_simp
    refine (put32_v ha1 a (by simp)).mono ?_
    rintro e w2 ⟨v2, rfl, h2, hb2⟩
    replace h2 : OwnB w2 _ v2 ([BitVec.ofInt 8 kd] ++ low (a.setWidth 64) 4) := h2
    replace hb2 := hb1.trans (hb2.mono hb1.size)
    refine hK _ _ (fun _ _ => hb2) ?_
    clear hK K
    repeat (refine mix_pure rfl rfl (fun K hK => ?_); go_simp; refine hK _ ?_; clear hK K)
    refine mix_eff rfl rfl (fun K hK => ?_)
    go_simp
    refine (put32_v h2.arg s (by simp [low_length])).mono ?_
    rintro e w3 ⟨v3, rfl, h3, hb3⟩
    replace h3 : OwnB w3 _ v3 ([BitVec.ofInt 8 kd] ++ low (a.setWidth 64) 4 ++ low (s.setWidth 64) 4) := h3
    replace h3 := h3.base hb2.size
    replace hb3 := hb2.trans (hb3.mono hb2.size)
    refine hK _ _ (fun _ _ => hb3) ?_
    clear hK K
    repeat (refine mix_pure rfl rfl (fun K hK => ?_); go_simp; refine hK _ ?_; clear hK K)
    refine mix_nil ?_
    go_wp2_with (first | (at_builtin; refine wpList_app rfl _ _ rfl W0.heap.size _ _ rfl h3 _ _ rfl (arg_of (r3.below hb3) HB.out (Nat.le_refl 105)) (by simp [low_length, HB.out]) hb3.size ?_; intro v4 w4 h4 hb4) | fail)
    refine bodyPost_ret (results_tmp2 rfl _ _ _) rfl ?_
    exact hpost1.out (by simp) _ _ (h4.base hb0.size) (hb0.trans ((hb3.trans hb4).mono hb0.size))
end Go.Proofs.Ytjnbgoiaocpcjaa
