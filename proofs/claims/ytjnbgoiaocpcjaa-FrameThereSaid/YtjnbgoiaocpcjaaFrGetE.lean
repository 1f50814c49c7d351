/- frame.GetEnvelope (printed by genge.py). -/
import Derived.Test.YtjnbgoiaocpcjaaEnvPut
namespace Go.Proofs.Ytjnbgoiaocpcjaa
open Go.RowKit
set_option linter.unusedVariables false
theorem conv8_int_e (x : BitVec 8) : IntKind.i64.wrap (wb x) = wb x := IntWalk.i64_in _ (by have h := x.isLt; unfold wb; omega)
attribute [local go_sem] conv8_int_e
theorem step_load_rd {P : Program} {ops : Array Oper} {o : Oper} {a : Act} {Q : Exit → Act → World → Prop} {w : World} {K : Act → World → Prop} {E : Prop} (hgd : o.guard = none) (ty : TypeId) (x : Operand) (ho : o.op = .load ty x) (g off : Nat) (hx : a.eval x = .pointer (some ⟨g, off, none⟩)) (k : IntKind) {n : Nat} (l : List (BitVec n)) (hR : Rd w k (some ⟨g, off, none⟩) l) (d : TypeDesc) (hu : P.underlying ty = some d) (hd : (match d with | .struct _ | .array _ _ => true | _ => false) = true) (hi : (P.info? ty).map (·.size) = some l.length)
    (h : K (a.put o.dst (.agg (encs k l))) w) : if Region.wanted o (yielded ops a.tmps) = true then Oper.wp P o a w K Q else E := by
  have hw : Region.wanted o (yielded ops a.tmps) = true := by simp [Region.wanted, hgd]
  rw [if_pos hw]
  unfold Oper.wp execOp
  simp only [ho, hx, Instr.loadAt, Instr.sureAddr, Sem.run_bind, Sem.run_pure, Result.andThen_ok, run_loadVar_rd w g off ty k l hR d hu hd hi]
  exact h
/-- What GetEnvelope makes of bytes. -/
def EnvGot (b : List (BitVec 8)) (w : World) (e : Ending) (w' : World) : Prop :=
  e = (if b.length = 114 then (if mayE (wb (b.getD 0 0)) (num32 b 5) (b.drop 9) = true then .returned (.tuple #[.agg (envL (wb (b.getD 0 0)) (num32 b 1) (num32 b 5) (b.drop 9)).toArray, .int .i64 0]) else .returned (.tuple #[.agg env0.toArray, .int .i64 241])) else .returned (.tuple #[.agg env0.toArray, .int .i64 240])) ∧ Below w.heap.size w w'
set_option maxRecDepth 100000 in
set_option maxHeartbeats 4000000 in
theorem getEnvelope_any (b : List (BitVec 8)) (A : Option Addr) (cap : Nat) (w : World) (hR : Rd w .u8 A b) (hc : b.length ≤ cap) (hlen : b.length ≤ 140737488355328) :
    Calls Try.prog 38 #[.slice A b.length cap] w (EnvGot b w) := by
  have HZ := Lib.hid env0_length
  have HZ1 : Hid (env0.toArray.all (·.oneCell') = true) := envL_one 0 0 0 z105
  have hz := Lib.hid build_env0
  by_cases h114 : b.length = 114
  · have hb105 : (b.drop 9).length = 105 := by rw [List.length_drop]; omega
    have HB := Lib.hid hb105
    have HBU := Lib.hid (build_env (wb (b.getD 0 0)) (num32 b 1) (num32 b 5) (b.drop 9) hb105)
    have HD := Lib.hid (envL_length (wb (b.getD 0 0)) (num32 b 1) (num32 b 5) (b.drop 9) hb105)
    have HONE := Lib.hid (envL_one (wb (b.getD 0 0)) (num32 b 1) (num32 b 5) (b.drop 9))
    have HM := Lib.hid (fun w' => may_any (wb (b.getD 0 0)) (num32 b 1) (num32 b 5) (b.drop 9) hb105 w')
    have hpost1 : Hid (mayE (wb (b.getD 0 0)) (num32 b 5) (b.drop 9) = true → ∀ w', Below w.heap.size w w' → EnvGot b w (.returned (.tuple #[.agg (envL (wb (b.getD 0 0)) (num32 b 1) (num32 b 5) (b.drop 9)).toArray, .int .i64 0])) w') := fun h w' h2 => ⟨by rw [if_pos h114, if_pos h], h2⟩
    have hpost0 : Hid (mayE (wb (b.getD 0 0)) (num32 b 5) (b.drop 9) = false → ∀ w', Below w.heap.size w w' → EnvGot b w (.returned (.tuple #[.agg env0.toArray, .int .i64 241])) w') := fun h w' h2 => ⟨by rw [if_pos h114, if_neg (by rw [h]; simp)], h2⟩
    have h113 : (b.drop 1).length = 113 := by rw [List.length_drop]; omega
    obtain ⟨a1, a2, a3, _⟩ := rd_ok (b.drop 1) 0 4 4 rfl (by omega)
    obtain ⟨b1, b2, b3, _⟩ := rd_ok (b.drop 1) 4 4 4 rfl (by omega)
    obtain ⟨c1, c2, c3, _⟩ := rd_ok (b.drop 1) 8 105 105 rfl (by omega)
    rw [List.drop_drop, show 1 + 0 = 1 from rfl] at a1
    rw [List.drop_drop, show 1 + 4 = 5 from rfl] at b1
    rw [List.drop_drop, show 1 + 8 = 9 from rfl, List.take_of_length_le (by omega)] at c1
    have A1 : Hid (wb ((get64 (rdGot (b.drop 1) 0 0 4)).setWidth 32) = wb (num32 b 1)) := by show _ = _; rw [a1]; rfl
    have B1 : Hid (wb ((get64 (rdGot (b.drop 1) 4 0 4)).setWidth 32) = wb (num32 b 5)) := by show _ = _; rw [b1]; rfl
    have C1 := Lib.hid c1
    have A2 := Lib.hid a2
    have A3 := Lib.hid a3
    have B2 := Lib.hid b2
    have B3 := Lib.hid b3
    rw [show 0 + 4 = 4 from rfl] at A2
    rw [show 4 + 4 = 8 from rfl] at B2
    have hA : Arg w (.slice (cutA A 1 cap 1) 113 (cap - 1)) (b.drop 1) := by
      have := rd_cut hR 1 113 cap hc
      rw [List.take_of_length_le (by omega)] at this
      exact arg_of this h113 (by omega)
    have HA := Lib.hid hA
    have hs := fun wx => run_slice_from (P := Try.prog) bytesT A 114 cap 1 .i64 (by omega) (by omega) wx
    rw [show (1 : Int).toNat = 1 from rfl, show 114 - 1 = 113 from rfl] at hs
    obtain ⟨g0, off, rfl, hcell⟩ := hR 0 (by omega)
    rw [Nat.add_zero] at hcell
    have H113 : Hid ((b.drop 1).length ≤ 140737488355328) := by show _ ≤ _; omega
    rw [h114] at hc ⊢
    clear h114 hR hb105 h113 a1 a2 a3 b1 b2 b3 c1 c2 c3 hA hlen
    generalize mayE (wb (b.getD 0 0)) (num32 b 5) (b.drop 9) = r at *
    generalize b.getD 0 0 = kb at *
    generalize num32 b 1 = p at *
    generalize num32 b 5 = n at *
    generalize b.drop 9 = Y at *
    generalize b.drop 1 = Y1 at *
    generalize envL (wb kb) p n Y = M at *
    go_enter Try.func38, Try.ntmps38
    go_wp2_with fail
    have hb0 : Below w.heap.size w (w.alloc (.cells env0.toArray 68)) := (Below.refl _ _).alloc (Nat.le_refl _) _
    have hB0 := Blk.new w env0.toArray 68
    refine (read_v (HA.out.below hb0) H113.out).mono ?_
    rintro e w1 ⟨g, A', cap', rfl, hr, hg, hb1⟩
    have hB2 := hB0.below hb1 hB0.lt
    have hg0 : w.heap.size < g := by simp at hg; omega
    have hw := hb0.trans (hb1.mono hb0.size)
    clear hB0 hb0 hg hb1
    go_wp2_with fail
    refine mix_plan (fun w' => Below w.heap.size w w') (.step 0 (.step 1 (.step 2 (.step 3 (.step 4 (.step 6 (.step 8 (.fork 5 13 (.fork 7 13 (.fork 9 13 (.step 10 (.fork 11 13 (.step 12 (.step 13 (.step 14 (.done)))) (.step 11 (.step 12 (.step 14 (.done)))))) (.step 9 (.step 10 (.step 11 (.step 12 (.step 14 (.done))))))) (.step 7 (.step 9 (.step 10 (.step 11 (.step 12 (.step 14 (.done)))))))) (.step 5 (.step 7 (.step 9 (.step 10 (.step 11 (.step 12 (.step 14 (.done)))))))))))))))) [5, 7, 9, 11, 13, 14] [2] [] (by kernel_rfl) (by kernel_rfl) (fun d _ _ _ _ h => by cases d <;> exact h) hw.drew ?_
    replace hw := hw.drew
    replace hr := hr.below (Below.refl _ _).drew
    replace hB2 := hB2.drew
    generalize w1.drew = x0 at *
    repeat (refine mix_pure rfl rfl (fun K hK => ?_); go_simp; refine hK _ ?_; clear hK K)
    refine mix_read (.int .u8 (wb kb)) rfl rfl rfl rfl (fun w' hS => ?_) ?_
    · have hc' := below_cell hS hcell
      go_simp
    repeat (refine mix_pure rfl rfl (fun K hK => ?_); go_simp; refine hK _ ?_; clear hK K)
    clear hcell
    refine mix_fork rfl rfl (fun K hK => ?_) (fun K hK => ?_)
    · go_simp
      refine (u32_any g A' cap' Y1 0 0 x0 hr).mono ?_
      rintro e x1 ⟨rfl, hr2, hu⟩
      rw [A1.out]
      rw [A2.out, A3.out] at hr2
      clear hr
      have hr := hr2
      clear hr2
      replace hw := Upd.below hw hu (by omega) hw.size
      replace hB2 := hB2.upd hu (by omega)
      refine hK _ _ (fun _ _ => hw) ?_
      clear hK K hu
      repeat (refine mix_pure rfl rfl (fun K hK => ?_); go_simp; refine hK _ ?_; clear hK K)
      refine mix_fork rfl rfl (fun K hK => ?_) (fun K hK => ?_)
      · go_simp
        refine (u32_any g A' cap' Y1 4 0 x1 hr).mono ?_
        rintro e x2 ⟨rfl, hr2, hu⟩
        rw [B1.out]
        rw [B2.out, B3.out] at hr2
        clear hr
        have hr := hr2
        clear hr2
        replace hw := Upd.below hw hu (by omega) hw.size
        replace hB2 := hB2.upd hu (by omega)
        refine hK _ _ (fun _ _ => hw) ?_
        clear hK K hu
        repeat (refine mix_pure rfl rfl (fun K hK => ?_); go_simp; refine hK _ ?_; clear hK K)
        refine mix_fork rfl rfl (fun K hK => ?_) (fun K hK => ?_)
        · go_simp
          refine (raw_any g A' cap' Y1 8 0 105 x2 hr).mono ?_
          rintro e x3 ⟨v3, rfl, h3, _, hu⟩
          rw [C1.out] at h3
          obtain ⟨A3', c3, rfl, hc3, hr3⟩ := ownsRow_rd h3
          obtain ⟨g3, o3, rfl, _⟩ := hr3 0 (by rw [HB.out]; omega)
          rw [HB.out] at hc3 ⊢
          have hat := fun wx => run_arrayAt (P := Try.prog) (w := wx) 66 5 105 (some ⟨g3, o3, none⟩) 105 c3 Try.underlying66 (Nat.le_refl _)
          clear h3 hr
          replace hw := Upd.below hw hu (by omega) hw.size
          replace hB2 := hB2.upd hu (by omega)
          refine hK _ _ (fun _ _ => hw) ?_
          clear hK K hu
          repeat (refine mix_pure rfl rfl (fun K hK => ?_); go_simp; refine hK _ ?_; clear hK K)
          refine mix_fork rfl rfl (fun K hK => ?_) (fun K hK => ?_)
          · refine step_load_rd rfl 66 _ rfl g3 o3 rfl .u8 Y hr3 _ Try.underlying66 rfl (by rw [HB.out]; exact sizeEnvB) ?_
            refine hK _ _ (fun _ _ => hw) ?_
            clear hK K hr3
            refine mix_build rfl rfl rfl 68 _ rfl (.agg M.toArray) _ HBU.out (by simp [Act.eval, Act.put]) ?_
            have hlt5 := hB2.lt
            refine mix_eff rfl rfl (fun K hK => ?_)
            go_simp
            have hB5 := Blk.new x3 env0.toArray 68
            have hn : Below x3.heap.size x3 (x3.alloc (.cells env0.toArray 68)) := (Below.refl _ _).alloc (Nat.le_refl _) _
            replace hB2 := hB2.alloc (.cells env0.toArray 68)
            have hg5 : w.heap.size < x3.heap.size := hlt5
            replace hw := hw.trans (hn.mono hw.size)
            refine hK _ (x3.alloc (.cells env0.toArray 68)) (fun _ _ => hw) ?_
            clear hK K hn
            generalize x3.alloc (.cells env0.toArray 68) = x5 at *
            generalize x3.heap.size = g5 at *
            repeat (refine mix_pure rfl rfl (fun K hK => ?_); go_simp; refine hK _ ?_; clear hK K)
            refine mix_eff rfl rfl (fun K hK => ?_)
            refine step_store_row rfl 68 _ _ rfl _ _ rfl rfl 68 _ hB5 (by rw [List.size_toArray, HD.out]; exact sizeEnv) (by rw [List.size_toArray, List.size_toArray, HD.out, HZ.out]) HONE.out ?_
            replace hw := below_setRow hw (show w.heap.size ≤ g5 by omega) M.toArray
            replace hB5 := hB5.row M.toArray
            replace hB2 := hB2.farRow (show w.heap.size ≠ g5 by omega) M.toArray
            refine hK _ _ (fun _ _ => hw) ?_
            clear hK K
            generalize x5.setRow g5 M.toArray = y at *
            repeat (refine mix_pure rfl rfl (fun K hK => ?_); go_simp; refine hK _ ?_; clear hK K)
            refine mix_nil ?_
            go_wp2_with (first | (refine wpList_load_row rfl 68 _ rfl _ rfl 68 _ (0, 0) _ hB5 Try.underlying68 rfl (by rw [List.size_toArray, HD.out]; exact sizeEnv) ?_) | fail)
            refine (HM.out y).mono ?_
            rintro e y2 ⟨rfl, hbm⟩
            replace hB5 := hB5.below hbm hB5.lt
            replace hB2 := hB2.below hbm hB2.lt
            replace hw := hw.trans (hbm.mono hw.size)
            clear hbm
            cases r
            · go_wp2_with (first | (refine wpList_build rfl 68 _ rfl (.agg env0.toArray) _ hz.out (by simp) ?_) | (refine wpList_store_row rfl 68 _ _ rfl _ _ rfl rfl 68 _ hB2 (by rw [List.size_toArray, HZ.out]; exact sizeEnv) rfl HZ1.out ?_) | fail)
              refine bodyPost_ret (v := .tuple #[.agg env0.toArray, .int .i64 241]) (results_cell_tmp rfl _ _ _ _ _ _ _ _ rfl rfl (hB2.row _) Try.underlying68 rfl (by rw [List.size_toArray, HZ.out]; exact sizeEnv)) rfl ?_
              exact hpost0.out (by simp) _ (below_setRow hw (Nat.le_refl _) _)
            · go_wp2_with (first | (refine wpList_load_row rfl 68 _ rfl _ rfl 68 _ (0, 0) _ hB5 Try.underlying68 rfl (by rw [List.size_toArray, HD.out]; exact sizeEnv) ?_) | (refine wpList_store_row rfl 68 _ _ rfl _ _ rfl rfl 68 _ hB2 (by rw [List.size_toArray, HD.out]; exact sizeEnv) (by rw [List.size_toArray, List.size_toArray, HD.out, HZ.out]) HONE.out ?_) | fail)
              refine bodyPost_ret (v := .tuple #[.agg M.toArray, .int .i64 0]) (results_cell_tmp rfl _ _ _ _ _ _ _ _ rfl rfl (hB2.row _) Try.underlying68 rfl (by rw [List.size_toArray, HD.out]; exact sizeEnv)) rfl ?_
              exact hpost1.out (by simp) _ (below_setRow hw (Nat.le_refl _) _)
          · have hlt5 := hB2.lt
            go_simp
            have hB5 := Blk.new x3 env0.toArray 68
            have hn : Below x3.heap.size x3 (x3.alloc (.cells env0.toArray 68)) := (Below.refl _ _).alloc (Nat.le_refl _) _
            replace hB2 := hB2.alloc (.cells env0.toArray 68)
            have hg5 : w.heap.size < x3.heap.size := hlt5
            replace hr3 := hr3.below hn
            replace hw := hw.trans (hn.mono hw.size)
            refine hK _ (x3.alloc (.cells env0.toArray 68)) (fun _ _ => hw) ?_
            clear hK K hn
            generalize x3.alloc (.cells env0.toArray 68) = x6 at *
            generalize x3.heap.size = g5 at *
            repeat (refine mix_pure rfl rfl (fun K hK => ?_); go_simp; refine hK _ ?_; clear hK K)
            refine mix_eff rfl rfl (fun K hK => ?_)
            refine step_load_rd rfl 66 _ rfl g3 o3 rfl .u8 Y hr3 _ Try.underlying66 rfl (by rw [HB.out]; exact sizeEnvB) ?_
            refine hK _ _ (fun _ _ => hw) ?_
            clear hK K hr3
            refine mix_build rfl rfl rfl 68 _ rfl (.agg M.toArray) _ HBU.out (by simp [Act.eval, Act.put]) ?_
            refine mix_eff rfl rfl (fun K hK => ?_)
            refine step_store_row rfl 68 _ _ rfl _ _ rfl rfl 68 _ hB5 (by rw [List.size_toArray, HD.out]; exact sizeEnv) (by rw [List.size_toArray, List.size_toArray, HD.out, HZ.out]) HONE.out ?_
            replace hw := below_setRow hw (show w.heap.size ≤ g5 by omega) M.toArray
            replace hB5 := hB5.row M.toArray
            replace hB2 := hB2.farRow (show w.heap.size ≠ g5 by omega) M.toArray
            refine hK _ _ (fun _ _ => hw) ?_
            clear hK K
            generalize x6.setRow g5 M.toArray = y at *
            repeat (refine mix_pure rfl rfl (fun K hK => ?_); go_simp; refine hK _ ?_; clear hK K)
            refine mix_nil ?_
            go_wp2_with (first | (refine wpList_load_row rfl 68 _ rfl _ rfl 68 _ (0, 0) _ hB5 Try.underlying68 rfl (by rw [List.size_toArray, HD.out]; exact sizeEnv) ?_) | fail)
            refine (HM.out y).mono ?_
            rintro e y2 ⟨rfl, hbm⟩
            replace hB5 := hB5.below hbm hB5.lt
            replace hB2 := hB2.below hbm hB2.lt
            replace hw := hw.trans (hbm.mono hw.size)
            clear hbm
            cases r
            · go_wp2_with (first | (refine wpList_build rfl 68 _ rfl (.agg env0.toArray) _ hz.out (by simp) ?_) | (refine wpList_store_row rfl 68 _ _ rfl _ _ rfl rfl 68 _ hB2 (by rw [List.size_toArray, HZ.out]; exact sizeEnv) rfl HZ1.out ?_) | fail)
              refine bodyPost_ret (v := .tuple #[.agg env0.toArray, .int .i64 241]) (results_cell_tmp rfl _ _ _ _ _ _ _ _ rfl rfl (hB2.row _) Try.underlying68 rfl (by rw [List.size_toArray, HZ.out]; exact sizeEnv)) rfl ?_
              exact hpost0.out (by simp) _ (below_setRow hw (Nat.le_refl _) _)
            · go_wp2_with (first | (refine wpList_load_row rfl 68 _ rfl _ rfl 68 _ (0, 0) _ hB5 Try.underlying68 rfl (by rw [List.size_toArray, HD.out]; exact sizeEnv) ?_) | (refine wpList_store_row rfl 68 _ _ rfl _ _ rfl rfl 68 _ hB2 (by rw [List.size_toArray, HD.out]; exact sizeEnv) (by rw [List.size_toArray, List.size_toArray, HD.out, HZ.out]) HONE.out ?_) | fail)
              refine bodyPost_ret (v := .tuple #[.agg M.toArray, .int .i64 0]) (results_cell_tmp rfl _ _ _ _ _ _ _ _ rfl rfl (hB2.row _) Try.underlying68 rfl (by rw [List.size_toArray, HD.out]; exact sizeEnv)) rfl ?_
              exact hpost1.out (by simp) _ (below_setRow hw (Nat.le_refl _) _)
        · have hlt5 := hB2.lt
          go_simp
          have hB5 := Blk.new x2 env0.toArray 68
          have hn : Below x2.heap.size x2 (x2.alloc (.cells env0.toArray 68)) := (Below.refl _ _).alloc (Nat.le_refl _) _
          replace hB2 := hB2.alloc (.cells env0.toArray 68)
          have hg5 : g < x2.heap.size := hr.blk.lt
          replace hr := hr.below hn
          replace hw := hw.trans (hn.mono hw.size)
          refine hK _ (x2.alloc (.cells env0.toArray 68)) (fun _ _ => hw) ?_
          clear hK K hn
          generalize x2.alloc (.cells env0.toArray 68) = x8 at *
          generalize x2.heap.size = g5 at *
          repeat (refine mix_pure rfl rfl (fun K hK => ?_); go_simp; refine hK _ ?_; clear hK K)
          refine mix_eff rfl rfl (fun K hK => ?_)
          go_simp
          refine (raw_any g A' cap' Y1 8 0 105 x8 hr).mono ?_
          rintro e x9 ⟨v3, rfl, h3, _, hu⟩
          rw [C1.out] at h3
          obtain ⟨A3', c3, rfl, hc3, hr3⟩ := ownsRow_rd h3
          obtain ⟨g3, o3, rfl, _⟩ := hr3 0 (by rw [HB.out]; omega)
          rw [HB.out] at hc3 ⊢
          have hat := fun wx => run_arrayAt (P := Try.prog) (w := wx) 66 5 105 (some ⟨g3, o3, none⟩) 105 c3 Try.underlying66 (Nat.le_refl _)
          clear h3 hr
          replace hw := Upd.below hw hu (by omega) hw.size
          replace hB2 := hB2.upd hu (by omega)
          replace hB5 := hB5.upd hu (by omega)
          refine hK _ _ (fun _ _ => hw) ?_
          clear hK K hu
          repeat (refine mix_pure rfl rfl (fun K hK => ?_); go_simp; refine hK _ ?_; clear hK K)
          refine mix_eff rfl rfl (fun K hK => ?_)
          refine step_load_rd rfl 66 _ rfl g3 o3 rfl .u8 Y hr3 _ Try.underlying66 rfl (by rw [HB.out]; exact sizeEnvB) ?_
          refine hK _ _ (fun _ _ => hw) ?_
          clear hK K hr3
          refine mix_build rfl rfl rfl 68 _ rfl (.agg M.toArray) _ HBU.out (by simp [Act.eval, Act.put]) ?_
          refine mix_eff rfl rfl (fun K hK => ?_)
          refine step_store_row rfl 68 _ _ rfl _ _ rfl rfl 68 _ hB5 (by rw [List.size_toArray, HD.out]; exact sizeEnv) (by rw [List.size_toArray, List.size_toArray, HD.out, HZ.out]) HONE.out ?_
          replace hw := below_setRow hw (show w.heap.size ≤ g5 by omega) M.toArray
          replace hB5 := hB5.row M.toArray
          replace hB2 := hB2.farRow (show w.heap.size ≠ g5 by omega) M.toArray
          refine hK _ _ (fun _ _ => hw) ?_
          clear hK K
          generalize x9.setRow g5 M.toArray = y at *
          repeat (refine mix_pure rfl rfl (fun K hK => ?_); go_simp; refine hK _ ?_; clear hK K)
          refine mix_nil ?_
          go_wp2_with (first | (refine wpList_load_row rfl 68 _ rfl _ rfl 68 _ (0, 0) _ hB5 Try.underlying68 rfl (by rw [List.size_toArray, HD.out]; exact sizeEnv) ?_) | fail)
          refine (HM.out y).mono ?_
          rintro e y2 ⟨rfl, hbm⟩
          replace hB5 := hB5.below hbm hB5.lt
          replace hB2 := hB2.below hbm hB2.lt
          replace hw := hw.trans (hbm.mono hw.size)
          clear hbm
          cases r
          · go_wp2_with (first | (refine wpList_build rfl 68 _ rfl (.agg env0.toArray) _ hz.out (by simp) ?_) | (refine wpList_store_row rfl 68 _ _ rfl _ _ rfl rfl 68 _ hB2 (by rw [List.size_toArray, HZ.out]; exact sizeEnv) rfl HZ1.out ?_) | fail)
            refine bodyPost_ret (v := .tuple #[.agg env0.toArray, .int .i64 241]) (results_cell_tmp rfl _ _ _ _ _ _ _ _ rfl rfl (hB2.row _) Try.underlying68 rfl (by rw [List.size_toArray, HZ.out]; exact sizeEnv)) rfl ?_
            exact hpost0.out (by simp) _ (below_setRow hw (Nat.le_refl _) _)
          · go_wp2_with (first | (refine wpList_load_row rfl 68 _ rfl _ rfl 68 _ (0, 0) _ hB5 Try.underlying68 rfl (by rw [List.size_toArray, HD.out]; exact sizeEnv) ?_) | (refine wpList_store_row rfl 68 _ _ rfl _ _ rfl rfl 68 _ hB2 (by rw [List.size_toArray, HD.out]; exact sizeEnv) (by rw [List.size_toArray, List.size_toArray, HD.out, HZ.out]) HONE.out ?_) | fail)
            refine bodyPost_ret (v := .tuple #[.agg M.toArray, .int .i64 0]) (results_cell_tmp rfl _ _ _ _ _ _ _ _ rfl rfl (hB2.row _) Try.underlying68 rfl (by rw [List.size_toArray, HD.out]; exact sizeEnv)) rfl ?_
            exact hpost1.out (by simp) _ (below_setRow hw (Nat.le_refl _) _)
      · have hlt5 := hB2.lt
        go_simp
        have hB5 := Blk.new x1 env0.toArray 68
        have hn : Below x1.heap.size x1 (x1.alloc (.cells env0.toArray 68)) := (Below.refl _ _).alloc (Nat.le_refl _) _
        replace hB2 := hB2.alloc (.cells env0.toArray 68)
        have hg5 : g < x1.heap.size := hr.blk.lt
        replace hr := hr.below hn
        replace hw := hw.trans (hn.mono hw.size)
        refine hK _ (x1.alloc (.cells env0.toArray 68)) (fun _ _ => hw) ?_
        clear hK K hn
        generalize x1.alloc (.cells env0.toArray 68) = x11 at *
        generalize x1.heap.size = g5 at *
        repeat (refine mix_pure rfl rfl (fun K hK => ?_); go_simp; refine hK _ ?_; clear hK K)
        refine mix_eff rfl rfl (fun K hK => ?_)
        go_simp
        refine (u32_any g A' cap' Y1 4 0 x11 hr).mono ?_
        rintro e x12 ⟨rfl, hr2, hu⟩
        rw [B1.out]
        rw [B2.out, B3.out] at hr2
        clear hr
        have hr := hr2
        clear hr2
        replace hw := Upd.below hw hu (by omega) hw.size
        replace hB2 := hB2.upd hu (by omega)
        replace hB5 := hB5.upd hu (by omega)
        refine hK _ _ (fun _ _ => hw) ?_
        clear hK K hu
        repeat (refine mix_pure rfl rfl (fun K hK => ?_); go_simp; refine hK _ ?_; clear hK K)
        refine mix_eff rfl rfl (fun K hK => ?_)
        go_simp
        refine (raw_any g A' cap' Y1 8 0 105 x12 hr).mono ?_
        rintro e x13 ⟨v3, rfl, h3, _, hu⟩
        rw [C1.out] at h3
        obtain ⟨A3', c3, rfl, hc3, hr3⟩ := ownsRow_rd h3
        obtain ⟨g3, o3, rfl, _⟩ := hr3 0 (by rw [HB.out]; omega)
        rw [HB.out] at hc3 ⊢
        have hat := fun wx => run_arrayAt (P := Try.prog) (w := wx) 66 5 105 (some ⟨g3, o3, none⟩) 105 c3 Try.underlying66 (Nat.le_refl _)
        clear h3 hr
        replace hw := Upd.below hw hu (by omega) hw.size
        replace hB2 := hB2.upd hu (by omega)
        replace hB5 := hB5.upd hu (by omega)
        refine hK _ _ (fun _ _ => hw) ?_
        clear hK K hu
        repeat (refine mix_pure rfl rfl (fun K hK => ?_); go_simp; refine hK _ ?_; clear hK K)
        refine mix_eff rfl rfl (fun K hK => ?_)
        refine step_load_rd rfl 66 _ rfl g3 o3 rfl .u8 Y hr3 _ Try.underlying66 rfl (by rw [HB.out]; exact sizeEnvB) ?_
        refine hK _ _ (fun _ _ => hw) ?_
        clear hK K hr3
        refine mix_build rfl rfl rfl 68 _ rfl (.agg M.toArray) _ HBU.out (by simp [Act.eval, Act.put]) ?_
        refine mix_eff rfl rfl (fun K hK => ?_)
        refine step_store_row rfl 68 _ _ rfl _ _ rfl rfl 68 _ hB5 (by rw [List.size_toArray, HD.out]; exact sizeEnv) (by rw [List.size_toArray, List.size_toArray, HD.out, HZ.out]) HONE.out ?_
        replace hw := below_setRow hw (show w.heap.size ≤ g5 by omega) M.toArray
        replace hB5 := hB5.row M.toArray
        replace hB2 := hB2.farRow (show w.heap.size ≠ g5 by omega) M.toArray
        refine hK _ _ (fun _ _ => hw) ?_
        clear hK K
        generalize x13.setRow g5 M.toArray = y at *
        repeat (refine mix_pure rfl rfl (fun K hK => ?_); go_simp; refine hK _ ?_; clear hK K)
        refine mix_nil ?_
        go_wp2_with (first | (refine wpList_load_row rfl 68 _ rfl _ rfl 68 _ (0, 0) _ hB5 Try.underlying68 rfl (by rw [List.size_toArray, HD.out]; exact sizeEnv) ?_) | fail)
        refine (HM.out y).mono ?_
        rintro e y2 ⟨rfl, hbm⟩
        replace hB5 := hB5.below hbm hB5.lt
        replace hB2 := hB2.below hbm hB2.lt
        replace hw := hw.trans (hbm.mono hw.size)
        clear hbm
        cases r
        · go_wp2_with (first | (refine wpList_build rfl 68 _ rfl (.agg env0.toArray) _ hz.out (by simp) ?_) | (refine wpList_store_row rfl 68 _ _ rfl _ _ rfl rfl 68 _ hB2 (by rw [List.size_toArray, HZ.out]; exact sizeEnv) rfl HZ1.out ?_) | fail)
          refine bodyPost_ret (v := .tuple #[.agg env0.toArray, .int .i64 241]) (results_cell_tmp rfl _ _ _ _ _ _ _ _ rfl rfl (hB2.row _) Try.underlying68 rfl (by rw [List.size_toArray, HZ.out]; exact sizeEnv)) rfl ?_
          exact hpost0.out (by simp) _ (below_setRow hw (Nat.le_refl _) _)
        · go_wp2_with (first | (refine wpList_load_row rfl 68 _ rfl _ rfl 68 _ (0, 0) _ hB5 Try.underlying68 rfl (by rw [List.size_toArray, HD.out]; exact sizeEnv) ?_) | (refine wpList_store_row rfl 68 _ _ rfl _ _ rfl rfl 68 _ hB2 (by rw [List.size_toArray, HD.out]; exact sizeEnv) (by rw [List.size_toArray, List.size_toArray, HD.out, HZ.out]) HONE.out ?_) | fail)
          refine bodyPost_ret (v := .tuple #[.agg M.toArray, .int .i64 0]) (results_cell_tmp rfl _ _ _ _ _ _ _ _ rfl rfl (hB2.row _) Try.underlying68 rfl (by rw [List.size_toArray, HD.out]; exact sizeEnv)) rfl ?_
          exact hpost1.out (by simp) _ (below_setRow hw (Nat.le_refl _) _)
    · have hlt5 := hB2.lt
      go_simp
      have hB5 := Blk.new x0 env0.toArray 68
      have hn : Below x0.heap.size x0 (x0.alloc (.cells env0.toArray 68)) := (Below.refl _ _).alloc (Nat.le_refl _) _
      replace hB2 := hB2.alloc (.cells env0.toArray 68)
      have hg5 : g < x0.heap.size := hr.blk.lt
      replace hr := hr.below hn
      replace hw := hw.trans (hn.mono hw.size)
      refine hK _ (x0.alloc (.cells env0.toArray 68)) (fun _ _ => hw) ?_
      clear hK K hn
      generalize x0.alloc (.cells env0.toArray 68) = x15 at *
      generalize x0.heap.size = g5 at *
      repeat (refine mix_pure rfl rfl (fun K hK => ?_); go_simp; refine hK _ ?_; clear hK K)
      refine mix_eff rfl rfl (fun K hK => ?_)
      go_simp
      refine (u32_any g A' cap' Y1 0 0 x15 hr).mono ?_
      rintro e x16 ⟨rfl, hr2, hu⟩
      rw [A1.out]
      rw [A2.out, A3.out] at hr2
      clear hr
      have hr := hr2
      clear hr2
      replace hw := Upd.below hw hu (by omega) hw.size
      replace hB2 := hB2.upd hu (by omega)
      replace hB5 := hB5.upd hu (by omega)
      refine hK _ _ (fun _ _ => hw) ?_
      clear hK K hu
      repeat (refine mix_pure rfl rfl (fun K hK => ?_); go_simp; refine hK _ ?_; clear hK K)
      refine mix_eff rfl rfl (fun K hK => ?_)
      go_simp
      refine (u32_any g A' cap' Y1 4 0 x16 hr).mono ?_
      rintro e x17 ⟨rfl, hr2, hu⟩
      rw [B1.out]
      rw [B2.out, B3.out] at hr2
      clear hr
      have hr := hr2
      clear hr2
      replace hw := Upd.below hw hu (by omega) hw.size
      replace hB2 := hB2.upd hu (by omega)
      replace hB5 := hB5.upd hu (by omega)
      refine hK _ _ (fun _ _ => hw) ?_
      clear hK K hu
      repeat (refine mix_pure rfl rfl (fun K hK => ?_); go_simp; refine hK _ ?_; clear hK K)
      refine mix_eff rfl rfl (fun K hK => ?_)
      go_simp
      refine (raw_any g A' cap' Y1 8 0 105 x17 hr).mono ?_
      rintro e x18 ⟨v3, rfl, h3, _, hu⟩
      rw [C1.out] at h3
      obtain ⟨A3', c3, rfl, hc3, hr3⟩ := ownsRow_rd h3
      obtain ⟨g3, o3, rfl, _⟩ := hr3 0 (by rw [HB.out]; omega)
      rw [HB.out] at hc3 ⊢
      have hat := fun wx => run_arrayAt (P := Try.prog) (w := wx) 66 5 105 (some ⟨g3, o3, none⟩) 105 c3 Try.underlying66 (Nat.le_refl _)
      clear h3 hr
      replace hw := Upd.below hw hu (by omega) hw.size
      replace hB2 := hB2.upd hu (by omega)
      replace hB5 := hB5.upd hu (by omega)
      refine hK _ _ (fun _ _ => hw) ?_
      clear hK K hu
      repeat (refine mix_pure rfl rfl (fun K hK => ?_); go_simp; refine hK _ ?_; clear hK K)
      refine mix_eff rfl rfl (fun K hK => ?_)
      refine step_load_rd rfl 66 _ rfl g3 o3 rfl .u8 Y hr3 _ Try.underlying66 rfl (by rw [HB.out]; exact sizeEnvB) ?_
      refine hK _ _ (fun _ _ => hw) ?_
      clear hK K hr3
      refine mix_build rfl rfl rfl 68 _ rfl (.agg M.toArray) _ HBU.out (by simp [Act.eval, Act.put]) ?_
      refine mix_eff rfl rfl (fun K hK => ?_)
      refine step_store_row rfl 68 _ _ rfl _ _ rfl rfl 68 _ hB5 (by rw [List.size_toArray, HD.out]; exact sizeEnv) (by rw [List.size_toArray, List.size_toArray, HD.out, HZ.out]) HONE.out ?_
      replace hw := below_setRow hw (show w.heap.size ≤ g5 by omega) M.toArray
      replace hB5 := hB5.row M.toArray
      replace hB2 := hB2.farRow (show w.heap.size ≠ g5 by omega) M.toArray
      refine hK _ _ (fun _ _ => hw) ?_
      clear hK K
      generalize x18.setRow g5 M.toArray = y at *
      repeat (refine mix_pure rfl rfl (fun K hK => ?_); go_simp; refine hK _ ?_; clear hK K)
      refine mix_nil ?_
      go_wp2_with (first | (refine wpList_load_row rfl 68 _ rfl _ rfl 68 _ (0, 0) _ hB5 Try.underlying68 rfl (by rw [List.size_toArray, HD.out]; exact sizeEnv) ?_) | fail)
      refine (HM.out y).mono ?_
      rintro e y2 ⟨rfl, hbm⟩
      replace hB5 := hB5.below hbm hB5.lt
      replace hB2 := hB2.below hbm hB2.lt
      replace hw := hw.trans (hbm.mono hw.size)
      clear hbm
      cases r
      · go_wp2_with (first | (refine wpList_build rfl 68 _ rfl (.agg env0.toArray) _ hz.out (by simp) ?_) | (refine wpList_store_row rfl 68 _ _ rfl _ _ rfl rfl 68 _ hB2 (by rw [List.size_toArray, HZ.out]; exact sizeEnv) rfl HZ1.out ?_) | fail)
        refine bodyPost_ret (v := .tuple #[.agg env0.toArray, .int .i64 241]) (results_cell_tmp rfl _ _ _ _ _ _ _ _ rfl rfl (hB2.row _) Try.underlying68 rfl (by rw [List.size_toArray, HZ.out]; exact sizeEnv)) rfl ?_
        exact hpost0.out (by simp) _ (below_setRow hw (Nat.le_refl _) _)
      · go_wp2_with (first | (refine wpList_load_row rfl 68 _ rfl _ rfl 68 _ (0, 0) _ hB5 Try.underlying68 rfl (by rw [List.size_toArray, HD.out]; exact sizeEnv) ?_) | (refine wpList_store_row rfl 68 _ _ rfl _ _ rfl rfl 68 _ hB2 (by rw [List.size_toArray, HD.out]; exact sizeEnv) (by rw [List.size_toArray, List.size_toArray, HD.out, HZ.out]) HONE.out ?_) | fail)
        refine bodyPost_ret (v := .tuple #[.agg M.toArray, .int .i64 0]) (results_cell_tmp rfl _ _ _ _ _ _ _ _ rfl rfl (hB2.row _) Try.underlying68 rfl (by rw [List.size_toArray, HD.out]; exact sizeEnv)) rfl ?_
        exact hpost1.out (by simp) _ (below_setRow hw (Nat.le_refl _) _)
  · have hpost : Hid (∀ w', Below w.heap.size w w' → EnvGot b w (.returned (.tuple #[.agg env0.toArray, .int .i64 240])) w') := fun w' h => ⟨by rw [if_neg h114], h⟩
    have e0 : ((b.length : Int) != 114) = true := by simp; omega
    clear hR
    generalize b.length = len at *
    go_enter Try.func38, Try.ntmps38
    have hB0 : Blk (w.alloc (.cells env0.toArray 68)) w.heap.size env0.toArray 68 := Blk.new _ _ _
    have hb0 : Below w.heap.size w (w.alloc (.cells env0.toArray 68)) := (Below.refl _ _).alloc (Nat.le_refl _) _
    go_wp2_with (first | (refine wpList_build rfl 68 _ rfl (.agg env0.toArray) _ hz.out (by simp) ?_) | (refine wpList_store_row rfl 68 _ _ rfl _ _ rfl rfl 68 _ hB0 (by rw [List.size_toArray, HZ.out]; exact sizeEnv) rfl HZ1.out ?_) | fail)
    exact bodyPost_ret (v := .tuple #[.agg env0.toArray, .int .i64 240]) (results_cell_tmp rfl _ _ _ _ _ _ _ _ rfl rfl (hB0.row _) Try.underlying68 rfl (by rw [List.size_toArray, HZ.out]; exact sizeEnv)) rfl (hpost.out _ (below_setRow hb0 (Nat.le_refl _) _))
end Go.Proofs.Ytjnbgoiaocpcjaa
