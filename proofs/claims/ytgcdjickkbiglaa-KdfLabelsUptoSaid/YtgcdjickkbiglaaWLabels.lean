/- Labelled secrets, pairs of them, and steps of a chain (printed by genlabels.py). -/
import Derived.Test.YtgcdjickkbiglaaKdfRefI
import Derived.Test.YtgcdjickkbiglaaShr
import Derived.Test.YtgcdjickkbiglaaWCodes
import Derived.Test.YtgcdjickkbiglaaMix3
namespace Go.Proofs.Ytgcdjickkbiglaa
open Go.RowKit
set_option linter.unusedVariables false
set_option linter.unusedSimpArgs false
set_option maxRecDepth 100000 in
set_option maxHeartbeats 8000000 in
theorem step_key_any (key : List (BitVec 8)) (w : World) (hk : key.length = 32) :
    Calls Try.prog 22 #[.agg (encs .u8 key)] w fun e w' => e = .returned (.tuple #[.agg (encs .u8 (hmac key [2])), .agg (encs .u8 (hmac key [1]))]) ∧ Below w.heap.size w w' := by
  obtain ⟨m0, m1, m2, hb⟩ := three_mem w (encs .u8 key) #[Value.int .u8 0, Value.int .u8 0, Value.int .u8 0, Value.int .u8 0, Value.int .u8 0, Value.int .u8 0, Value.int .u8 0, Value.int .u8 0, Value.int .u8 0, Value.int .u8 0, Value.int .u8 0, Value.int .u8 0, Value.int .u8 0, Value.int .u8 0, Value.int .u8 0, Value.int .u8 0, Value.int .u8 0, Value.int .u8 0, Value.int .u8 0, Value.int .u8 0, Value.int .u8 0, Value.int .u8 0, Value.int .u8 0, Value.int .u8 0, Value.int .u8 0, Value.int .u8 0, Value.int .u8 0, Value.int .u8 0, Value.int .u8 0, Value.int .u8 0, Value.int .u8 0, Value.int .u8 0] #[Value.int .u8 0, Value.int .u8 0, Value.int .u8 0, Value.int .u8 0, Value.int .u8 0, Value.int .u8 0, Value.int .u8 0, Value.int .u8 0, Value.int .u8 0, Value.int .u8 0, Value.int .u8 0, Value.int .u8 0, Value.int .u8 0, Value.int .u8 0, Value.int .u8 0, Value.int .u8 0, Value.int .u8 0, Value.int .u8 0, Value.int .u8 0, Value.int .u8 0, Value.int .u8 0, Value.int .u8 0, Value.int .u8 0, Value.int .u8 0, Value.int .u8 0, Value.int .u8 0, Value.int .u8 0, Value.int .u8 0, Value.int .u8 0, Value.int .u8 0, Value.int .u8 0, Value.int .u8 0] 25 25 25
  replace m1 : Blk _ (w.heap.size + 1) (encs .u8 z32s) 25 := m1
  replace m2 : Blk _ (w.heap.size + 1 + 1) (encs .u8 z32s) 25 := m2
  go_enter Try.func22, Try.ntmps22
  go_wp2_with fail
  generalize ((w.alloc (.cells (encs .u8 key) 25)).alloc (.cells #[Value.int .u8 0, Value.int .u8 0, Value.int .u8 0, Value.int .u8 0, Value.int .u8 0, Value.int .u8 0, Value.int .u8 0, Value.int .u8 0, Value.int .u8 0, Value.int .u8 0, Value.int .u8 0, Value.int .u8 0, Value.int .u8 0, Value.int .u8 0, Value.int .u8 0, Value.int .u8 0, Value.int .u8 0, Value.int .u8 0, Value.int .u8 0, Value.int .u8 0, Value.int .u8 0, Value.int .u8 0, Value.int .u8 0, Value.int .u8 0, Value.int .u8 0, Value.int .u8 0, Value.int .u8 0, Value.int .u8 0, Value.int .u8 0, Value.int .u8 0, Value.int .u8 0, Value.int .u8 0] 25)).alloc (.cells #[Value.int .u8 0, Value.int .u8 0, Value.int .u8 0, Value.int .u8 0, Value.int .u8 0, Value.int .u8 0, Value.int .u8 0, Value.int .u8 0, Value.int .u8 0, Value.int .u8 0, Value.int .u8 0, Value.int .u8 0, Value.int .u8 0, Value.int .u8 0, Value.int .u8 0, Value.int .u8 0, Value.int .u8 0, Value.int .u8 0, Value.int .u8 0, Value.int .u8 0, Value.int .u8 0, Value.int .u8 0, Value.int .u8 0, Value.int .u8 0, Value.int .u8 0, Value.int .u8 0, Value.int .u8 0, Value.int .u8 0, Value.int .u8 0, Value.int .u8 0, Value.int .u8 0, Value.int .u8 0] 25) = W0 at *
  refine mix_plan (fun _ => True) (.step 0 (.step 4 (.fork 1 5 (.fork 2 5 (.fork 3 5 (.step 5 (.step 6 (.step 7 (.step 8 (.step 9 (.done)))))) (.fork 3 6 (.step 6 (.step 7 (.step 8 (.step 9 (.done))))) (.step 3 (.step 7 (.step 8 (.step 9 (.done))))))) (.fork 2 6 (.fork 3 6 (.step 6 (.step 7 (.step 8 (.step 9 (.done))))) (.step 3 (.step 7 (.step 8 (.step 9 (.done)))))) (.step 2 (.step 3 (.step 7 (.step 8 (.step 9 (.done)))))))) (.fork 1 6 (.fork 2 6 (.fork 3 6 (.step 6 (.step 7 (.step 8 (.step 9 (.done))))) (.step 3 (.step 7 (.step 8 (.step 9 (.done)))))) (.step 2 (.step 3 (.step 7 (.step 8 (.step 9 (.done))))))) (.step 1 (.step 2 (.step 3 (.step 7 (.step 8 (.step 9 (.done))))))))))) [1, 2, 3, 5, 6, 7, 8, 9] [] [] (by kernel_rfl) (by kernel_rfl) (fun d _ _ _ _ h => by cases d <;> exact h) trivial ?_
  replace m0 := m0.drew
  replace m1 := m1.drew
  replace m2 := m2.drew
  replace hb := hb.drew
  generalize W0.drew = x0 at *
  repeat (refine mix_pure rfl rfl (fun K hK => ?_); go_simp; refine hK _ ?_; clear hK K)
  apply share4 (A := fun u1 u2 u5 u6 wx => Blk wx w.heap.size (encs .u8 key) 25 ∧ Blk wx (w.heap.size + 1) (encs .u8 z32s) 25 ∧ Blk wx (w.heap.size + 1 + 1) (encs .u8 z32s) 25 ∧ Below w.heap.size w wx ∧ RowArg wx u5 [1] ∧ RowV wx u6 [u5])
  · intro hS1_2_3_5_6
    apply share3 (A := fun u1 u2 u5 wx => Blk wx w.heap.size (encs .u8 key) 25 ∧ Blk wx (w.heap.size + 1) (encs .u8 z32s) 25 ∧ Blk wx (w.heap.size + 1 + 1) (encs .u8 z32s) 25 ∧ Below w.heap.size w wx ∧ RowArg wx u5 [1])
    · intro hS1_2_3_5
      apply share4 (A := fun u1 u2 u5 u6 wx => Blk wx w.heap.size (encs .u8 key) 25 ∧ Blk wx (w.heap.size + 1) (encs .u8 z32s) 25 ∧ Blk wx (w.heap.size + 1 + 1) (encs .u8 z32s) 25 ∧ Below w.heap.size w wx ∧ RowArg wx u1 [2] ∧ RowArg wx u5 [1] ∧ RowV wx u2 [u1] ∧ RowV wx u6 [u5])
      · intro hS1_2_5_6
        apply share3 (A := fun u1 u2 u5 wx => Blk wx w.heap.size (encs .u8 key) 25 ∧ Blk wx (w.heap.size + 1) (encs .u8 z32s) 25 ∧ Blk wx (w.heap.size + 1 + 1) (encs .u8 z32s) 25 ∧ Below w.heap.size w wx ∧ RowArg wx u1 [2] ∧ RowArg wx u5 [1] ∧ RowV wx u2 [u1])
        · intro hS1_2_5
          apply share3 (A := fun u1 u5 u6 wx => Blk wx w.heap.size (encs .u8 key) 25 ∧ Blk wx (w.heap.size + 1) (encs .u8 z32s) 25 ∧ Blk wx (w.heap.size + 1 + 1) (encs .u8 z32s) 25 ∧ Below w.heap.size w wx ∧ RowArg wx u1 [2] ∧ RowArg wx u5 [1] ∧ RowV wx u6 [u5])
          · intro hS1_5_6
            apply share2 (A := fun u1 u5 wx => Blk wx w.heap.size (encs .u8 key) 25 ∧ Blk wx (w.heap.size + 1) (encs .u8 z32s) 25 ∧ Blk wx (w.heap.size + 1 + 1) (encs .u8 z32s) 25 ∧ Below w.heap.size w wx ∧ RowArg wx u1 [2] ∧ RowArg wx u5 [1])
            · intro hS1_5
              refine mix_fork rfl rfl (fun K hK => ?_) (fun K hK => ?_)
              · go_simp
                have hn : Below x0.heap.size x0 (x0.alloc (.cells #[.int .u8 2] 5)) := (Below.refl _ _).alloc (Nat.le_refl _) _
                have a1 : RowArg (x0.alloc (.cells #[.int .u8 2] 5)) (Value.slice (some ⟨x0.heap.size, 0, none⟩) 1 1) [2] := Blk.rowArg (l := [2]) (Blk.new _ _ _) rfl (Nat.le_refl _) (by omega)
                generalize x0.alloc (.cells #[.int .u8 2] 5) = x1 at *
                generalize Value.slice (some ⟨x0.heap.size, 0, none⟩) 1 1 = u1 at *
                replace m0 := m0.below hn m0.lt
                replace m1 := m1.below hn m1.lt
                replace m2 := m2.below hn m2.lt
                replace hb := hb.trans (hn.mono hb.size)
                refine hK _ _ (fun _ _ => trivial) ?_
                clear hK K hn
                refine mix_fork rfl rfl (fun K hK => ?_) (fun K hK => ?_)
                · obtain ⟨A1, c1, rfl, hA1, hA2, hA3⟩ := a1
                  go_simp
                  have hn : Below x1.heap.size x1 (x1.alloc (.cells #[.slice A1 1 c1] 22)) := (Below.refl _ _).alloc (Nat.le_refl _) _
                  have a1 : RowArg x1 (.slice A1 1 c1) [2] := ⟨A1, c1, rfl, hA1, hA2, hA3⟩
                  have r2 : RowV (x1.alloc (.cells #[.slice A1 1 c1] 22)) (Value.slice (some ⟨x1.heap.size, 0, none⟩) 1 1) [.slice A1 1 c1] := RowV.new _ [.slice A1 1 c1] 1 rfl
                  clear hA1 hA2 hA3
                  generalize x1.alloc (.cells #[.slice A1 1 c1] 22) = x2 at *
                  generalize Value.slice (some ⟨x1.heap.size, 0, none⟩) 1 1 = u2 at *
                  generalize Value.slice A1 1 c1 = u1 at *
                  replace m0 := m0.below hn m0.lt
                  replace m1 := m1.below hn m1.lt
                  replace m2 := m2.below hn m2.lt
                  replace hb := hb.trans (hn.mono hb.size)
                  replace a1 := a1.below hn
                  refine hK _ _ (fun _ _ => trivial) ?_
                  clear hK K hn
                  refine mix_fork rfl rfl (fun K hK => ?_) (fun K hK => ?_)
                  · go_simp
                    refine (hmac1_r (m0.arg hk (Nat.le_refl _)) (by rw [hk]; omega) r2 a1 (by simp)).mono ?_
                    rintro e x3 ⟨rfl, hn⟩
                    replace m0 := m0.below hn m0.lt
                    replace m1 := m1.below hn m1.lt
                    replace m2 := m2.below hn m2.lt
                    replace hb := hb.trans (hn.mono hb.size)
                    refine hK _ _ (fun _ _ => trivial) ?_
                    clear hK K hn
                    clear a1 r2
                    refine mix_eff rfl rfl (fun K hK => ?_)
                    go_simp
                    have hn : Below x3.heap.size x3 (x3.alloc (.cells #[.int .u8 1] 5)) := (Below.refl _ _).alloc (Nat.le_refl _) _
                    have a5 : RowArg (x3.alloc (.cells #[.int .u8 1] 5)) (Value.slice (some ⟨x3.heap.size, 0, none⟩) 1 1) [1] := Blk.rowArg (l := [1]) (Blk.new _ _ _) rfl (Nat.le_refl _) (by omega)
                    generalize x3.alloc (.cells #[.int .u8 1] 5) = x4 at *
                    generalize Value.slice (some ⟨x3.heap.size, 0, none⟩) 1 1 = u5 at *
                    replace m0 := m0.below hn m0.lt
                    replace m1 := m1.below hn m1.lt
                    replace m2 := m2.below hn m2.lt
                    replace hb := hb.trans (hn.mono hb.size)
                    refine hK _ _ (fun _ _ => trivial) ?_
                    clear hK K hn
                    exact hS1_2_3_5 u1 u2 u5 x4 ⟨m0, m1, m2, hb, a5⟩
                  · go_simp
                    have hn : Below x2.heap.size x2 (x2.alloc (.cells #[.int .u8 1] 5)) := (Below.refl _ _).alloc (Nat.le_refl _) _
                    have a5 : RowArg (x2.alloc (.cells #[.int .u8 1] 5)) (Value.slice (some ⟨x2.heap.size, 0, none⟩) 1 1) [1] := Blk.rowArg (l := [1]) (Blk.new _ _ _) rfl (Nat.le_refl _) (by omega)
                    generalize x2.alloc (.cells #[.int .u8 1] 5) = x5 at *
                    generalize Value.slice (some ⟨x2.heap.size, 0, none⟩) 1 1 = u5 at *
                    replace m0 := m0.below hn m0.lt
                    replace m1 := m1.below hn m1.lt
                    replace m2 := m2.below hn m2.lt
                    replace hb := hb.trans (hn.mono hb.size)
                    replace a1 := a1.below hn
                    replace r2 := r2.below hn
                    refine hK _ _ (fun _ _ => trivial) ?_
                    clear hK K hn
                    exact hS1_2_5 u1 u2 u5 x5 ⟨m0, m1, m2, hb, a1, a5, r2⟩
                · go_simp
                  have hn : Below x1.heap.size x1 (x1.alloc (.cells #[.int .u8 1] 5)) := (Below.refl _ _).alloc (Nat.le_refl _) _
                  have a5 : RowArg (x1.alloc (.cells #[.int .u8 1] 5)) (Value.slice (some ⟨x1.heap.size, 0, none⟩) 1 1) [1] := Blk.rowArg (l := [1]) (Blk.new _ _ _) rfl (Nat.le_refl _) (by omega)
                  generalize x1.alloc (.cells #[.int .u8 1] 5) = x6 at *
                  generalize Value.slice (some ⟨x1.heap.size, 0, none⟩) 1 1 = u5 at *
                  replace m0 := m0.below hn m0.lt
                  replace m1 := m1.below hn m1.lt
                  replace m2 := m2.below hn m2.lt
                  replace hb := hb.trans (hn.mono hb.size)
                  replace a1 := a1.below hn
                  refine hK _ _ (fun _ _ => trivial) ?_
                  clear hK K hn
                  exact hS1_5 u1 u5 x6 ⟨m0, m1, m2, hb, a1, a5⟩
              · go_simp
                have hn : Below x0.heap.size x0 (x0.alloc (.cells #[.int .u8 1] 5)) := (Below.refl _ _).alloc (Nat.le_refl _) _
                have a5 : RowArg (x0.alloc (.cells #[.int .u8 1] 5)) (Value.slice (some ⟨x0.heap.size, 0, none⟩) 1 1) [1] := Blk.rowArg (l := [1]) (Blk.new _ _ _) rfl (Nat.le_refl _) (by omega)
                generalize x0.alloc (.cells #[.int .u8 1] 5) = x7 at *
                generalize Value.slice (some ⟨x0.heap.size, 0, none⟩) 1 1 = u5 at *
                replace m0 := m0.below hn m0.lt
                replace m1 := m1.below hn m1.lt
                replace m2 := m2.below hn m2.lt
                replace hb := hb.trans (hn.mono hb.size)
                refine hK _ _ (fun _ _ => trivial) ?_
                clear hK K hn
                refine mix_fork rfl rfl (fun K hK => ?_) (fun K hK => ?_)
                · go_simp
                  have hn : Below x7.heap.size x7 (x7.alloc (.cells #[.int .u8 2] 5)) := (Below.refl _ _).alloc (Nat.le_refl _) _
                  have a1 : RowArg (x7.alloc (.cells #[.int .u8 2] 5)) (Value.slice (some ⟨x7.heap.size, 0, none⟩) 1 1) [2] := Blk.rowArg (l := [2]) (Blk.new _ _ _) rfl (Nat.le_refl _) (by omega)
                  generalize x7.alloc (.cells #[.int .u8 2] 5) = x8 at *
                  generalize Value.slice (some ⟨x7.heap.size, 0, none⟩) 1 1 = u1 at *
                  replace m0 := m0.below hn m0.lt
                  replace m1 := m1.below hn m1.lt
                  replace m2 := m2.below hn m2.lt
                  replace hb := hb.trans (hn.mono hb.size)
                  replace a5 := a5.below hn
                  refine hK _ _ (fun _ _ => trivial) ?_
                  clear hK K hn
                  exact hS1_5 u1 u5 x8 ⟨m0, m1, m2, hb, a1, a5⟩
                · obtain ⟨A1, c1, rfl, hA1, hA2, hA3⟩ := a5
                  go_simp
                  have hn : Below x7.heap.size x7 (x7.alloc (.cells #[.slice A1 1 c1] 22)) := (Below.refl _ _).alloc (Nat.le_refl _) _
                  have a5 : RowArg x7 (.slice A1 1 c1) [1] := ⟨A1, c1, rfl, hA1, hA2, hA3⟩
                  have r6 : RowV (x7.alloc (.cells #[.slice A1 1 c1] 22)) (Value.slice (some ⟨x7.heap.size, 0, none⟩) 1 1) [.slice A1 1 c1] := RowV.new _ [.slice A1 1 c1] 1 rfl
                  clear hA1 hA2 hA3
                  generalize x7.alloc (.cells #[.slice A1 1 c1] 22) = x9 at *
                  generalize Value.slice (some ⟨x7.heap.size, 0, none⟩) 1 1 = u6 at *
                  generalize Value.slice A1 1 c1 = u5 at *
                  replace m0 := m0.below hn m0.lt
                  replace m1 := m1.below hn m1.lt
                  replace m2 := m2.below hn m2.lt
                  replace hb := hb.trans (hn.mono hb.size)
                  replace a5 := a5.below hn
                  refine hK _ _ (fun _ _ => trivial) ?_
                  clear hK K hn
                  refine mix_eff rfl rfl (fun K hK => ?_)
                  go_simp
                  have hn : Below x9.heap.size x9 (x9.alloc (.cells #[.int .u8 2] 5)) := (Below.refl _ _).alloc (Nat.le_refl _) _
                  have a1 : RowArg (x9.alloc (.cells #[.int .u8 2] 5)) (Value.slice (some ⟨x9.heap.size, 0, none⟩) 1 1) [2] := Blk.rowArg (l := [2]) (Blk.new _ _ _) rfl (Nat.le_refl _) (by omega)
                  generalize x9.alloc (.cells #[.int .u8 2] 5) = x10 at *
                  generalize Value.slice (some ⟨x9.heap.size, 0, none⟩) 1 1 = u1 at *
                  replace m0 := m0.below hn m0.lt
                  replace m1 := m1.below hn m1.lt
                  replace m2 := m2.below hn m2.lt
                  replace hb := hb.trans (hn.mono hb.size)
                  replace a5 := a5.below hn
                  replace r6 := r6.below hn
                  refine hK _ _ (fun _ _ => trivial) ?_
                  clear hK K hn
                  exact hS1_5_6 u1 u5 u6 x10 ⟨m0, m1, m2, hb, a1, a5, r6⟩
            · intro u1 u5 wx hA
              obtain ⟨m0, m1, m2, hb, a1, a5⟩ := hA
              refine mix_fork rfl rfl (fun K hK => ?_) (fun K hK => ?_)
              · obtain ⟨A1, c1, rfl, hA1, hA2, hA3⟩ := a1
                go_simp
                have hn : Below wx.heap.size wx (wx.alloc (.cells #[.slice A1 1 c1] 22)) := (Below.refl _ _).alloc (Nat.le_refl _) _
                have a1 : RowArg wx (.slice A1 1 c1) [2] := ⟨A1, c1, rfl, hA1, hA2, hA3⟩
                have r2 : RowV (wx.alloc (.cells #[.slice A1 1 c1] 22)) (Value.slice (some ⟨wx.heap.size, 0, none⟩) 1 1) [.slice A1 1 c1] := RowV.new _ [.slice A1 1 c1] 1 rfl
                clear hA1 hA2 hA3
                generalize wx.alloc (.cells #[.slice A1 1 c1] 22) = x11 at *
                generalize Value.slice (some ⟨wx.heap.size, 0, none⟩) 1 1 = u2 at *
                generalize Value.slice A1 1 c1 = u1 at *
                replace m0 := m0.below hn m0.lt
                replace m1 := m1.below hn m1.lt
                replace m2 := m2.below hn m2.lt
                replace hb := hb.trans (hn.mono hb.size)
                replace a1 := a1.below hn
                replace a5 := a5.below hn
                refine hK _ _ (fun _ _ => trivial) ?_
                clear hK K hn
                exact hS1_2_5 u1 u2 u5 x11 ⟨m0, m1, m2, hb, a1, a5, r2⟩
              · obtain ⟨A1, c1, rfl, hA1, hA2, hA3⟩ := a5
                go_simp
                have hn : Below wx.heap.size wx (wx.alloc (.cells #[.slice A1 1 c1] 22)) := (Below.refl _ _).alloc (Nat.le_refl _) _
                have a5 : RowArg wx (.slice A1 1 c1) [1] := ⟨A1, c1, rfl, hA1, hA2, hA3⟩
                have r6 : RowV (wx.alloc (.cells #[.slice A1 1 c1] 22)) (Value.slice (some ⟨wx.heap.size, 0, none⟩) 1 1) [.slice A1 1 c1] := RowV.new _ [.slice A1 1 c1] 1 rfl
                clear hA1 hA2 hA3
                generalize wx.alloc (.cells #[.slice A1 1 c1] 22) = x12 at *
                generalize Value.slice (some ⟨wx.heap.size, 0, none⟩) 1 1 = u6 at *
                generalize Value.slice A1 1 c1 = u5 at *
                replace m0 := m0.below hn m0.lt
                replace m1 := m1.below hn m1.lt
                replace m2 := m2.below hn m2.lt
                replace hb := hb.trans (hn.mono hb.size)
                replace a1 := a1.below hn
                replace a5 := a5.below hn
                refine hK _ _ (fun _ _ => trivial) ?_
                clear hK K hn
                exact hS1_5_6 u1 u5 u6 x12 ⟨m0, m1, m2, hb, a1, a5, r6⟩
          · intro u1 u5 u6 wx hA
            obtain ⟨m0, m1, m2, hb, a1, a5, r6⟩ := hA
            refine mix_eff rfl rfl (fun K hK => ?_)
            obtain ⟨A1, c1, rfl, hA1, hA2, hA3⟩ := a1
            go_simp
            have hn : Below wx.heap.size wx (wx.alloc (.cells #[.slice A1 1 c1] 22)) := (Below.refl _ _).alloc (Nat.le_refl _) _
            have a1 : RowArg wx (.slice A1 1 c1) [2] := ⟨A1, c1, rfl, hA1, hA2, hA3⟩
            have r2 : RowV (wx.alloc (.cells #[.slice A1 1 c1] 22)) (Value.slice (some ⟨wx.heap.size, 0, none⟩) 1 1) [.slice A1 1 c1] := RowV.new _ [.slice A1 1 c1] 1 rfl
            clear hA1 hA2 hA3
            generalize wx.alloc (.cells #[.slice A1 1 c1] 22) = x13 at *
            generalize Value.slice (some ⟨wx.heap.size, 0, none⟩) 1 1 = u2 at *
            generalize Value.slice A1 1 c1 = u1 at *
            replace m0 := m0.below hn m0.lt
            replace m1 := m1.below hn m1.lt
            replace m2 := m2.below hn m2.lt
            replace hb := hb.trans (hn.mono hb.size)
            replace a1 := a1.below hn
            replace a5 := a5.below hn
            replace r6 := r6.below hn
            refine hK _ _ (fun _ _ => trivial) ?_
            clear hK K hn
            exact hS1_2_5_6 u1 u2 u5 u6 x13 ⟨m0, m1, m2, hb, a1, a5, r2, r6⟩
        · intro u1 u2 u5 wx hA
          obtain ⟨m0, m1, m2, hb, a1, a5, r2⟩ := hA
          refine mix_fork rfl rfl (fun K hK => ?_) (fun K hK => ?_)
          · go_simp
            refine (hmac1_r (m0.arg hk (Nat.le_refl _)) (by rw [hk]; omega) r2 a1 (by simp)).mono ?_
            rintro e x14 ⟨rfl, hn⟩
            replace m0 := m0.below hn m0.lt
            replace m1 := m1.below hn m1.lt
            replace m2 := m2.below hn m2.lt
            replace hb := hb.trans (hn.mono hb.size)
            replace a5 := a5.below hn
            refine hK _ _ (fun _ _ => trivial) ?_
            clear hK K hn
            clear a1 r2
            exact hS1_2_3_5 u1 u2 u5 x14 ⟨m0, m1, m2, hb, a5⟩
          · obtain ⟨A1, c1, rfl, hA1, hA2, hA3⟩ := a5
            go_simp
            have hn : Below wx.heap.size wx (wx.alloc (.cells #[.slice A1 1 c1] 22)) := (Below.refl _ _).alloc (Nat.le_refl _) _
            have a5 : RowArg wx (.slice A1 1 c1) [1] := ⟨A1, c1, rfl, hA1, hA2, hA3⟩
            have r6 : RowV (wx.alloc (.cells #[.slice A1 1 c1] 22)) (Value.slice (some ⟨wx.heap.size, 0, none⟩) 1 1) [.slice A1 1 c1] := RowV.new _ [.slice A1 1 c1] 1 rfl
            clear hA1 hA2 hA3
            generalize wx.alloc (.cells #[.slice A1 1 c1] 22) = x15 at *
            generalize Value.slice (some ⟨wx.heap.size, 0, none⟩) 1 1 = u6 at *
            generalize Value.slice A1 1 c1 = u5 at *
            replace m0 := m0.below hn m0.lt
            replace m1 := m1.below hn m1.lt
            replace m2 := m2.below hn m2.lt
            replace hb := hb.trans (hn.mono hb.size)
            replace a1 := a1.below hn
            replace a5 := a5.below hn
            replace r2 := r2.below hn
            refine hK _ _ (fun _ _ => trivial) ?_
            clear hK K hn
            exact hS1_2_5_6 u1 u2 u5 u6 x15 ⟨m0, m1, m2, hb, a1, a5, r2, r6⟩
      · intro u1 u2 u5 u6 wx hA
        obtain ⟨m0, m1, m2, hb, a1, a5, r2, r6⟩ := hA
        refine mix_eff rfl rfl (fun K hK => ?_)
        go_simp
        refine (hmac1_r (m0.arg hk (Nat.le_refl _)) (by rw [hk]; omega) r2 a1 (by simp)).mono ?_
        rintro e x16 ⟨rfl, hn⟩
        replace m0 := m0.below hn m0.lt
        replace m1 := m1.below hn m1.lt
        replace m2 := m2.below hn m2.lt
        replace hb := hb.trans (hn.mono hb.size)
        replace a5 := a5.below hn
        replace r6 := r6.below hn
        refine hK _ _ (fun _ _ => trivial) ?_
        clear hK K hn
        clear a1 r2
        exact hS1_2_3_5_6 u1 u2 u5 u6 x16 ⟨m0, m1, m2, hb, a5, r6⟩
    · intro u1 u2 u5 wx hA
      obtain ⟨m0, m1, m2, hb, a5⟩ := hA
      refine mix_eff rfl rfl (fun K hK => ?_)
      obtain ⟨A1, c1, rfl, hA1, hA2, hA3⟩ := a5
      go_simp
      have hn : Below wx.heap.size wx (wx.alloc (.cells #[.slice A1 1 c1] 22)) := (Below.refl _ _).alloc (Nat.le_refl _) _
      have a5 : RowArg wx (.slice A1 1 c1) [1] := ⟨A1, c1, rfl, hA1, hA2, hA3⟩
      have r6 : RowV (wx.alloc (.cells #[.slice A1 1 c1] 22)) (Value.slice (some ⟨wx.heap.size, 0, none⟩) 1 1) [.slice A1 1 c1] := RowV.new _ [.slice A1 1 c1] 1 rfl
      clear hA1 hA2 hA3
      generalize wx.alloc (.cells #[.slice A1 1 c1] 22) = x17 at *
      generalize Value.slice (some ⟨wx.heap.size, 0, none⟩) 1 1 = u6 at *
      generalize Value.slice A1 1 c1 = u5 at *
      replace m0 := m0.below hn m0.lt
      replace m1 := m1.below hn m1.lt
      replace m2 := m2.below hn m2.lt
      replace hb := hb.trans (hn.mono hb.size)
      replace a5 := a5.below hn
      refine hK _ _ (fun _ _ => trivial) ?_
      clear hK K hn
      exact hS1_2_3_5_6 u1 u2 u5 u6 x17 ⟨m0, m1, m2, hb, a5, r6⟩
  · intro u1 u2 u5 u6 wx hA
    obtain ⟨m0, m1, m2, hb, a5, r6⟩ := hA
    refine mix_eff rfl rfl (fun K hK => ?_)
    go_simp
    refine (hmac1_r (m0.arg hk (Nat.le_refl _)) (by rw [hk]; omega) r6 a5 (by simp)).mono ?_
    rintro e x18 ⟨rfl, hn⟩
    replace m0 := m0.below hn m0.lt
    replace m1 := m1.below hn m1.lt
    replace m2 := m2.below hn m2.lt
    replace hb := hb.trans (hn.mono hb.size)
    refine hK _ _ (fun _ _ => trivial) ?_
    clear hK K hn
    clear a5 r6
    refine mix_eff rfl rfl (fun K hK => ?_)
    refine step_store_rowS rfl 25 _ _ rfl _ _ rfl rfl 25 _ m1 (by rw [encs_size, hmac_length]; exact sizeKey0) (by rw [encs_size, encs_size, hmac_length]; rfl) (encs_one _ _) ?_
    replace m1 := m1.row (encs .u8 (hmac key [2]))
    replace m2 := m2.farRow (show w.heap.size + 1 + 1 ≠ w.heap.size + 1 by omega) (encs .u8 (hmac key [2]))
    replace hb := below_setRow hb (show w.heap.size ≤ w.heap.size + 1 by omega) (encs .u8 (hmac key [2]))
    clear m0
    generalize x18.setRow (w.heap.size + 1) (encs .u8 (hmac key [2])) = x19 at *
    dsimp only [Act.put]
    refine hK _ _ (fun _ _ => trivial) ?_
    clear hK K
    try clear m0
    refine mix_eff rfl rfl (fun K hK => ?_)
    refine step_store_rowS rfl 25 _ _ rfl _ _ rfl rfl 25 _ m2 (by rw [encs_size, hmac_length]; exact sizeKey0) (by rw [encs_size, encs_size, hmac_length]; rfl) (encs_one _ _) ?_
    replace m2 := m2.row (encs .u8 (hmac key [1]))
    replace m1 := m1.farRow (show w.heap.size + 1 ≠ w.heap.size + 1 + 1 by omega) (encs .u8 (hmac key [1]))
    replace hb := below_setRow hb (show w.heap.size ≤ w.heap.size + 1 + 1 by omega) (encs .u8 (hmac key [1]))
    generalize x19.setRow (w.heap.size + 1 + 1) (encs .u8 (hmac key [1])) = x20 at *
    dsimp only [Act.put]
    refine hK _ _ (fun _ _ => trivial) ?_
    clear hK K
    refine mix_nil ?_
    go_simp
    go_wp2_with fail
    refine bodyPost_ret (results_cell_cell rfl _ _ _ _ _ _ _ _ _ _ _ _ rfl rfl m1 m2 Try.underlying25 rfl (by rw [encs_size, hmac_length]; exact sizeKey0) Try.underlying25 rfl (by rw [encs_size, hmac_length]; exact sizeKey0)) rfl ?_
    exact ⟨rfl, hb⟩
set_option maxRecDepth 100000 in
set_option maxHeartbeats 8000000 in
theorem rstep_any (key : List (BitVec 8)) (w : World) (hk : key.length = 32) :
    Calls Try.prog 23 #[.agg (encs .u8 key)] w fun e w' => e = .returned (.tuple #[.agg (encs .u8 (hmac key [2])), .agg (encs .u8 (hmac key [1]))]) ∧ Below w.heap.size w w' := by
  obtain ⟨m0, m1, m2, hb⟩ := three_mem w (encs .u8 key) #[Value.int .u8 0, Value.int .u8 0, Value.int .u8 0, Value.int .u8 0, Value.int .u8 0, Value.int .u8 0, Value.int .u8 0, Value.int .u8 0, Value.int .u8 0, Value.int .u8 0, Value.int .u8 0, Value.int .u8 0, Value.int .u8 0, Value.int .u8 0, Value.int .u8 0, Value.int .u8 0, Value.int .u8 0, Value.int .u8 0, Value.int .u8 0, Value.int .u8 0, Value.int .u8 0, Value.int .u8 0, Value.int .u8 0, Value.int .u8 0, Value.int .u8 0, Value.int .u8 0, Value.int .u8 0, Value.int .u8 0, Value.int .u8 0, Value.int .u8 0, Value.int .u8 0, Value.int .u8 0] #[Value.int .u8 0, Value.int .u8 0, Value.int .u8 0, Value.int .u8 0, Value.int .u8 0, Value.int .u8 0, Value.int .u8 0, Value.int .u8 0, Value.int .u8 0, Value.int .u8 0, Value.int .u8 0, Value.int .u8 0, Value.int .u8 0, Value.int .u8 0, Value.int .u8 0, Value.int .u8 0, Value.int .u8 0, Value.int .u8 0, Value.int .u8 0, Value.int .u8 0, Value.int .u8 0, Value.int .u8 0, Value.int .u8 0, Value.int .u8 0, Value.int .u8 0, Value.int .u8 0, Value.int .u8 0, Value.int .u8 0, Value.int .u8 0, Value.int .u8 0, Value.int .u8 0, Value.int .u8 0] 25 25 25
  replace m1 : Blk _ (w.heap.size + 1) (encs .u8 z32s) 25 := m1
  replace m2 : Blk _ (w.heap.size + 1 + 1) (encs .u8 z32s) 25 := m2
  go_enter Try.func23, Try.ntmps23
  go_wp2_with fail
  generalize ((w.alloc (.cells (encs .u8 key) 25)).alloc (.cells #[Value.int .u8 0, Value.int .u8 0, Value.int .u8 0, Value.int .u8 0, Value.int .u8 0, Value.int .u8 0, Value.int .u8 0, Value.int .u8 0, Value.int .u8 0, Value.int .u8 0, Value.int .u8 0, Value.int .u8 0, Value.int .u8 0, Value.int .u8 0, Value.int .u8 0, Value.int .u8 0, Value.int .u8 0, Value.int .u8 0, Value.int .u8 0, Value.int .u8 0, Value.int .u8 0, Value.int .u8 0, Value.int .u8 0, Value.int .u8 0, Value.int .u8 0, Value.int .u8 0, Value.int .u8 0, Value.int .u8 0, Value.int .u8 0, Value.int .u8 0, Value.int .u8 0, Value.int .u8 0] 25)).alloc (.cells #[Value.int .u8 0, Value.int .u8 0, Value.int .u8 0, Value.int .u8 0, Value.int .u8 0, Value.int .u8 0, Value.int .u8 0, Value.int .u8 0, Value.int .u8 0, Value.int .u8 0, Value.int .u8 0, Value.int .u8 0, Value.int .u8 0, Value.int .u8 0, Value.int .u8 0, Value.int .u8 0, Value.int .u8 0, Value.int .u8 0, Value.int .u8 0, Value.int .u8 0, Value.int .u8 0, Value.int .u8 0, Value.int .u8 0, Value.int .u8 0, Value.int .u8 0, Value.int .u8 0, Value.int .u8 0, Value.int .u8 0, Value.int .u8 0, Value.int .u8 0, Value.int .u8 0, Value.int .u8 0] 25) = W0 at *
  refine mix_plan (fun _ => True) (.step 0 (.step 3 (.fork 1 4 (.fork 2 4 (.step 4 (.step 5 (.step 6 (.step 7 (.done))))) (.step 2 (.step 5 (.step 6 (.step 7 (.done)))))) (.step 1 (.step 2 (.step 5 (.step 6 (.step 7 (.done))))))))) [1, 2, 4, 5, 6, 7] [] [] (by kernel_rfl) (by kernel_rfl) (fun d _ _ _ _ h => by cases d <;> exact h) trivial ?_
  replace m0 := m0.drew
  replace m1 := m1.drew
  replace m2 := m2.drew
  replace hb := hb.drew
  generalize W0.drew = x0 at *
  repeat (refine mix_pure rfl rfl (fun K hK => ?_); go_simp; refine hK _ ?_; clear hK K)
  apply share2 (A := fun u1 u4 wx => Blk wx w.heap.size (encs .u8 key) 25 ∧ Blk wx (w.heap.size + 1) (encs .u8 z32s) 25 ∧ Blk wx (w.heap.size + 1 + 1) (encs .u8 z32s) 25 ∧ Below w.heap.size w wx ∧ RowArg wx u4 [1])
  · intro hS1_2_4
    apply share2 (A := fun u1 u4 wx => Blk wx w.heap.size (encs .u8 key) 25 ∧ Blk wx (w.heap.size + 1) (encs .u8 z32s) 25 ∧ Blk wx (w.heap.size + 1 + 1) (encs .u8 z32s) 25 ∧ Below w.heap.size w wx ∧ RowArg wx u1 [2] ∧ RowArg wx u4 [1])
    · intro hS1_4
      refine mix_fork rfl rfl (fun K hK => ?_) (fun K hK => ?_)
      · go_simp
        have hn : Below x0.heap.size x0 (x0.alloc (.cells #[.int .u8 2] 5)) := (Below.refl _ _).alloc (Nat.le_refl _) _
        have a1 : RowArg (x0.alloc (.cells #[.int .u8 2] 5)) (Value.slice (some ⟨x0.heap.size, 0, none⟩) 1 1) [2] := Blk.rowArg (l := [2]) (Blk.new _ _ _) rfl (Nat.le_refl _) (by omega)
        generalize x0.alloc (.cells #[.int .u8 2] 5) = x1 at *
        generalize Value.slice (some ⟨x0.heap.size, 0, none⟩) 1 1 = u1 at *
        replace m0 := m0.below hn m0.lt
        replace m1 := m1.below hn m1.lt
        replace m2 := m2.below hn m2.lt
        replace hb := hb.trans (hn.mono hb.size)
        refine hK _ _ (fun _ _ => trivial) ?_
        clear hK K hn
        refine mix_fork rfl rfl (fun K hK => ?_) (fun K hK => ?_)
        · go_simp
          refine (rhmac_any key [2] _ u1 _ (m0.arg hk (Nat.le_refl _)) a1.arg (by rw [hk]; omega) (by simp)).mono ?_
          rintro e x2 ⟨rfl, hn⟩
          replace m0 := m0.below hn m0.lt
          replace m1 := m1.below hn m1.lt
          replace m2 := m2.below hn m2.lt
          replace hb := hb.trans (hn.mono hb.size)
          refine hK _ _ (fun _ _ => trivial) ?_
          clear hK K hn
          clear a1
          refine mix_eff rfl rfl (fun K hK => ?_)
          go_simp
          have hn : Below x2.heap.size x2 (x2.alloc (.cells #[.int .u8 1] 5)) := (Below.refl _ _).alloc (Nat.le_refl _) _
          have a4 : RowArg (x2.alloc (.cells #[.int .u8 1] 5)) (Value.slice (some ⟨x2.heap.size, 0, none⟩) 1 1) [1] := Blk.rowArg (l := [1]) (Blk.new _ _ _) rfl (Nat.le_refl _) (by omega)
          generalize x2.alloc (.cells #[.int .u8 1] 5) = x3 at *
          generalize Value.slice (some ⟨x2.heap.size, 0, none⟩) 1 1 = u4 at *
          replace m0 := m0.below hn m0.lt
          replace m1 := m1.below hn m1.lt
          replace m2 := m2.below hn m2.lt
          replace hb := hb.trans (hn.mono hb.size)
          refine hK _ _ (fun _ _ => trivial) ?_
          clear hK K hn
          exact hS1_2_4 u1 u4 x3 ⟨m0, m1, m2, hb, a4⟩
        · go_simp
          have hn : Below x1.heap.size x1 (x1.alloc (.cells #[.int .u8 1] 5)) := (Below.refl _ _).alloc (Nat.le_refl _) _
          have a4 : RowArg (x1.alloc (.cells #[.int .u8 1] 5)) (Value.slice (some ⟨x1.heap.size, 0, none⟩) 1 1) [1] := Blk.rowArg (l := [1]) (Blk.new _ _ _) rfl (Nat.le_refl _) (by omega)
          generalize x1.alloc (.cells #[.int .u8 1] 5) = x4 at *
          generalize Value.slice (some ⟨x1.heap.size, 0, none⟩) 1 1 = u4 at *
          replace m0 := m0.below hn m0.lt
          replace m1 := m1.below hn m1.lt
          replace m2 := m2.below hn m2.lt
          replace hb := hb.trans (hn.mono hb.size)
          replace a1 := a1.below hn
          refine hK _ _ (fun _ _ => trivial) ?_
          clear hK K hn
          exact hS1_4 u1 u4 x4 ⟨m0, m1, m2, hb, a1, a4⟩
      · go_simp
        have hn : Below x0.heap.size x0 (x0.alloc (.cells #[.int .u8 1] 5)) := (Below.refl _ _).alloc (Nat.le_refl _) _
        have a4 : RowArg (x0.alloc (.cells #[.int .u8 1] 5)) (Value.slice (some ⟨x0.heap.size, 0, none⟩) 1 1) [1] := Blk.rowArg (l := [1]) (Blk.new _ _ _) rfl (Nat.le_refl _) (by omega)
        generalize x0.alloc (.cells #[.int .u8 1] 5) = x5 at *
        generalize Value.slice (some ⟨x0.heap.size, 0, none⟩) 1 1 = u4 at *
        replace m0 := m0.below hn m0.lt
        replace m1 := m1.below hn m1.lt
        replace m2 := m2.below hn m2.lt
        replace hb := hb.trans (hn.mono hb.size)
        refine hK _ _ (fun _ _ => trivial) ?_
        clear hK K hn
        refine mix_eff rfl rfl (fun K hK => ?_)
        go_simp
        have hn : Below x5.heap.size x5 (x5.alloc (.cells #[.int .u8 2] 5)) := (Below.refl _ _).alloc (Nat.le_refl _) _
        have a1 : RowArg (x5.alloc (.cells #[.int .u8 2] 5)) (Value.slice (some ⟨x5.heap.size, 0, none⟩) 1 1) [2] := Blk.rowArg (l := [2]) (Blk.new _ _ _) rfl (Nat.le_refl _) (by omega)
        generalize x5.alloc (.cells #[.int .u8 2] 5) = x6 at *
        generalize Value.slice (some ⟨x5.heap.size, 0, none⟩) 1 1 = u1 at *
        replace m0 := m0.below hn m0.lt
        replace m1 := m1.below hn m1.lt
        replace m2 := m2.below hn m2.lt
        replace hb := hb.trans (hn.mono hb.size)
        replace a4 := a4.below hn
        refine hK _ _ (fun _ _ => trivial) ?_
        clear hK K hn
        exact hS1_4 u1 u4 x6 ⟨m0, m1, m2, hb, a1, a4⟩
    · intro u1 u4 wx hA
      obtain ⟨m0, m1, m2, hb, a1, a4⟩ := hA
      refine mix_eff rfl rfl (fun K hK => ?_)
      go_simp
      refine (rhmac_any key [2] _ u1 _ (m0.arg hk (Nat.le_refl _)) a1.arg (by rw [hk]; omega) (by simp)).mono ?_
      rintro e x7 ⟨rfl, hn⟩
      replace m0 := m0.below hn m0.lt
      replace m1 := m1.below hn m1.lt
      replace m2 := m2.below hn m2.lt
      replace hb := hb.trans (hn.mono hb.size)
      replace a4 := a4.below hn
      refine hK _ _ (fun _ _ => trivial) ?_
      clear hK K hn
      clear a1
      exact hS1_2_4 u1 u4 x7 ⟨m0, m1, m2, hb, a4⟩
  · intro u1 u4 wx hA
    obtain ⟨m0, m1, m2, hb, a4⟩ := hA
    refine mix_eff rfl rfl (fun K hK => ?_)
    go_simp
    refine (rhmac_any key [1] _ u4 _ (m0.arg hk (Nat.le_refl _)) a4.arg (by rw [hk]; omega) (by simp)).mono ?_
    rintro e x8 ⟨rfl, hn⟩
    replace m0 := m0.below hn m0.lt
    replace m1 := m1.below hn m1.lt
    replace m2 := m2.below hn m2.lt
    replace hb := hb.trans (hn.mono hb.size)
    refine hK _ _ (fun _ _ => trivial) ?_
    clear hK K hn
    clear a4
    refine mix_eff rfl rfl (fun K hK => ?_)
    refine step_store_rowS rfl 25 _ _ rfl _ _ rfl rfl 25 _ m1 (by rw [encs_size, hmac_length]; exact sizeKey0) (by rw [encs_size, encs_size, hmac_length]; rfl) (encs_one _ _) ?_
    replace m1 := m1.row (encs .u8 (hmac key [2]))
    replace m2 := m2.farRow (show w.heap.size + 1 + 1 ≠ w.heap.size + 1 by omega) (encs .u8 (hmac key [2]))
    replace hb := below_setRow hb (show w.heap.size ≤ w.heap.size + 1 by omega) (encs .u8 (hmac key [2]))
    clear m0
    generalize x8.setRow (w.heap.size + 1) (encs .u8 (hmac key [2])) = x9 at *
    dsimp only [Act.put]
    refine hK _ _ (fun _ _ => trivial) ?_
    clear hK K
    try clear m0
    refine mix_eff rfl rfl (fun K hK => ?_)
    refine step_store_rowS rfl 25 _ _ rfl _ _ rfl rfl 25 _ m2 (by rw [encs_size, hmac_length]; exact sizeKey0) (by rw [encs_size, encs_size, hmac_length]; rfl) (encs_one _ _) ?_
    replace m2 := m2.row (encs .u8 (hmac key [1]))
    replace m1 := m1.farRow (show w.heap.size + 1 ≠ w.heap.size + 1 + 1 by omega) (encs .u8 (hmac key [1]))
    replace hb := below_setRow hb (show w.heap.size ≤ w.heap.size + 1 + 1 by omega) (encs .u8 (hmac key [1]))
    generalize x9.setRow (w.heap.size + 1 + 1) (encs .u8 (hmac key [1])) = x10 at *
    dsimp only [Act.put]
    refine hK _ _ (fun _ _ => trivial) ?_
    clear hK K
    refine mix_nil ?_
    go_simp
    go_wp2_with fail
    refine bodyPost_ret (results_cell_cell rfl _ _ _ _ _ _ _ _ _ _ _ _ rfl rfl m1 m2 Try.underlying25 rfl (by rw [encs_size, hmac_length]; exact sizeKey0) Try.underlying25 rfl (by rw [encs_size, hmac_length]; exact sizeKey0)) rfl ?_
    exact ⟨rfl, hb⟩
theorem M3.mix_load_row {P : Program} {ops : Array Oper} {Q : Exit → Act → World → Prop} {S : World → Prop} {eff rd ds : List Nat} {o : Oper} {rest : M3.Plan} {i : Nat} {a : Act} {w : World}
    (hoi : ops[i]? = some o) (he : eff.contains i = false) (hr : rd.contains i = true) (hw : Region.wanted o (yielded ops a.tmps) = true) (ty : TypeId) (x : Operand) (ho : o.op = .load ty x) (g : Nat) (hx : a.eval x = .pointer (some ⟨g, 0, none⟩)) (cs : Array Value) (t : TypeId) (fr : Nat × Nat) (d : TypeDesc)
    (hg : ∀ w', S w' → w'.heap[g]? = some (.cells cs t fr)) (hu : P.underlying ty = some d) (hd : (match d with | .struct _ | .array _ _ => true | _ => false) = true) (hi : (P.info? ty).map (·.size) = some cs.size)
    (h : M3.wpMix P ops Q S eff rd ds rest (a.put o.dst (.agg cs)) w) : M3.wpMix P ops Q S eff rd ds (.step i rest) a w := by
  refine M3.mix_read (.agg cs) hoi he hr hw (fun w' hs => ?_) h
  unfold execOp
  simp only [ho, hx, Instr.loadAt, Instr.sureAddr, Sem.run_bind, Sem.run_pure, Result.andThen_ok, run_loadVar_row w' g t ty cs fr d (hg w' hs) hu hd hi]
attribute [local go_sem] strB_size
def PartsV (w : World) (u : Value) (ls : List (List (BitVec 8))) : Prop := ∃ A c, u = .slice A ls.length c ∧ PartsR w A ls
theorem PartsV.below {w w' : World} {u : Value} {ls : List (List (BitVec 8))} (h : PartsV w u ls) (hb : Below w.heap.size w w') : PartsV w' u ls := by
  obtain ⟨A, c, rfl, h1⟩ := h
  exact ⟨A, c, rfl, h1.below hb⟩
set_option maxRecDepth 100000 in
set_option maxHeartbeats 16000000 in
theorem labels_walk (key label : List (BitVec 8)) (ls : List (List (BitVec 8))) (PA : Option Addr) (pc : Nat) (w : World) (hk : key.length = 32) (hP : PartsR w PA ls) (hll : ls.length ≤ 140737488355328) :
    Calls Try.prog 7 #[.agg (encs .u8 key), .string (strB label), .slice PA ls.length pc] w fun e w' => e = .returned (.bool true) ∧ Below w.heap.size w w' := by
  have HP := Lib.hid hP
  have HK := Lib.hid hk
  clear hP hk
  have m0 : Blk (w.alloc (.cells (encs .u8 key) 25)) w.heap.size (encs .u8 key) 25 := Blk.new _ _ _
  have hb : Below w.heap.size w (w.alloc (.cells (encs .u8 key) 25)) := (Below.refl _ _).alloc (Nat.le_refl _) _
  go_enter Try.func7, Try.ntmps7
  go_wp2_with fail
  refine (wakes_any _).mono ?_
  rintro e w1 ⟨rfl, hn⟩
  replace m0 := m0.below hn m0.lt
  replace hb := hb.trans (hn.mono hb.size)
  clear hn
  go_wp2_with fail
  refine (small_pv (HP.out.below hb) hll).mono ?_
  rintro e W0 ⟨hs, hn⟩
  replace m0 := m0.below hn m0.lt
  replace hb := hb.trans (hn.mono hb.size)
  clear hn
  rcases hs with ⟨rfl, hfl, hl1⟩ | rfl
  case inr =>
    go_wp2_with fail
    go_ret
    exact ⟨rfl, hb⟩
  by_cases hlab : (1000 : Int) < (label.length : Int)
  · go_wp2_with fail
    go_ret
    exact ⟨rfl, hb⟩
  have HFL := Lib.hid hfl
  have HL1 := Lib.hid hl1
  have HLAB : Hid (label.length ≤ 1000) := by show _ ≤ _; omega
  have H2L := Lib.hid (twoK_length key label ls)
  have HXL : Hid (((twoK key label ls).take 32).length = 32) := by show _ = _; rw [List.length_take, H2L.out]; rfl
  have HYL : Hid (((twoK key label ls).drop 32).length = 32) := by show _ = _; rw [List.length_drop, H2L.out]
  obtain ⟨X, hX⟩ : ∃ X, (twoK key label ls).take 32 = X := ⟨_, rfl⟩
  obtain ⟨Y, hY⟩ : ∃ Y, (twoK key label ls).drop 32 = Y := ⟨_, rfl⟩
  rw [hX] at HXL
  rw [hY] at HYL
  have HX := Lib.hid hX
  have HY := Lib.hid hY
  obtain ⟨S2, hS2⟩ : ∃ s, hmac key [2] = s := ⟨_, rfl⟩
  obtain ⟨S1, hS1⟩ : ∃ s, hmac key [1] = s := ⟨_, rfl⟩
  have HN2 : Hid (S2.length = 32) := by show _ = _; rw [← hS2]; exact hmac_length _ _
  have HN1 : Hid (S1.length = 32) := by show _ = _; rw [← hS1]; exact hmac_length _ _
  have HM2 := Lib.hid hS2
  have HM1 := Lib.hid hS1
  clear hS2 hS1
  have heq1 := eq_key X X HXL.out HXL.out rfl
  have heq2 := eq_key Y Y HYL.out HYL.out rfl
  have heq3 := eq_key S2 S2 HN2.out HN2.out rfl
  have heq4 := eq_key S1 S1 HN1.out HN1.out rfl
  clear hX hY hfl hl1
  go_wp2_with fail
  have HB := Lib.hid (And.intro m0 hb)
  clear m0 hb
  refine M3.mix_plan (fun w' => Below W0.heap.size W0 w') (.step 0 (.step 1 (.step 2 (.fork3 3 8 9 (.fork3 4 8 9 (.step 5 (.step 6 (.step 7 (.fork 8 9 (.step 9 (.step 10 (.step 11 (.done)))) (.step 8 (.step 10 (.step 11 (.done)))))))) (.fork 4 9 (.step 5 (.step 6 (.step 7 (.step 9 (.step 10 (.step 11 (.done))))))) (.step 4 (.step 5 (.step 6 (.step 7 (.step 10 (.step 11 (.done)))))))) (.fork 4 8 (.step 5 (.step 6 (.step 7 (.step 8 (.step 10 (.step 11 (.done))))))) (.step 4 (.step 5 (.step 6 (.step 7 (.step 10 (.step 11 (.done))))))))) (.fork 3 9 (.fork 4 9 (.step 5 (.step 6 (.step 7 (.step 9 (.step 10 (.step 11 (.done))))))) (.step 4 (.step 5 (.step 6 (.step 7 (.step 10 (.step 11 (.done)))))))) (.step 3 (.step 4 (.step 5 (.step 6 (.step 7 (.step 10 (.step 11 (.done))))))))) (.fork 3 8 (.fork 4 8 (.step 5 (.step 6 (.step 7 (.step 8 (.step 10 (.step 11 (.done))))))) (.step 4 (.step 5 (.step 6 (.step 7 (.step 10 (.step 11 (.done)))))))) (.step 3 (.step 4 (.step 5 (.step 6 (.step 7 (.step 10 (.step 11 (.done))))))))))))) [3, 4, 8, 9, 10, 11] [0] [] (by kernel_rfl) (by kernel_rfl) (fun d _ _ _ _ h => by cases d <;> exact h) (Below.refl _ _).drew ?_
  have hS : Below W0.heap.size W0 W0.drew := (Below.refl _ _).drew
  generalize W0.drew = x0 at *
  apply share3 (A := fun u3 u8 u9 wx => Below W0.heap.size W0 wx ∧ KeyP wx W0.heap.size u8 z32s ∧ KeyP wx W0.heap.size u9 z32s ∧ u8 ≠ u9)
  · intro hS0_3_4_8_9
    apply share2 (A := fun u3 u8 wx => Below W0.heap.size W0 wx ∧ KeyP wx W0.heap.size u8 z32s)
    · intro hS0_3_4_8
      apply share2 (A := fun u3 u9 wx => Below W0.heap.size W0 wx ∧ KeyP wx W0.heap.size u9 z32s)
      · intro hS0_3_4_9
        apply share3 (A := fun u3 u8 u9 wx => Below W0.heap.size W0 wx ∧ PartsV wx u3 ls ∧ KeyP wx W0.heap.size u8 z32s ∧ KeyP wx W0.heap.size u9 z32s ∧ u8 ≠ u9)
        · intro hS0_3_8_9
          apply share2 (A := fun u3 u8 wx => Below W0.heap.size W0 wx ∧ PartsV wx u3 ls ∧ KeyP wx W0.heap.size u8 z32s)
          · intro hS0_3_8
            apply share2 (A := fun u3 u9 wx => Below W0.heap.size W0 wx ∧ PartsV wx u3 ls ∧ KeyP wx W0.heap.size u9 z32s)
            · intro hS0_3_9
              apply share2 (A := fun u8 u9 wx => Below W0.heap.size W0 wx ∧ KeyP wx W0.heap.size u8 z32s ∧ KeyP wx W0.heap.size u9 z32s ∧ u8 ≠ u9)
              · intro hS0_8_9
                refine M3.mix_load_row rfl rfl rfl rfl 25 _ rfl w.heap.size rfl _ 25 (0, 0) _ (fun w' hS => HB.out.1.below hS HB.out.1.lt) Try.underlying25 rfl (by rw [encs_size, HK.out]; exact sizeKey0) ?_
                repeat (refine M3.mix_pure rfl rfl (fun K hK => ?_); go_simp; refine hK _ ?_; clear hK K)
                refine M3.mix_fork3 rfl rfl rfl (fun K hK => ?_) (fun K hK => ?_) (fun K hK => ?_)
                · go_simp
                  refine (copied_any ls PA pc x0 ((HP.out.below HB.out.2).below hS) (by have := HL1.out; omega) (by have := HFL.out; omega)).mono ?_
                  rintro e x1 ⟨Aa, ca, rfl, hpa, hn⟩
                  have p3 : PartsV x1 (.slice Aa ls.length ca) ls := ⟨Aa, ca, rfl, hpa⟩
                  clear hpa
                  generalize Value.slice Aa ls.length ca = u3 at *
                  replace hS := hS.trans (hn.mono hS.size)
                  refine hK _ _ (fun _ _ => hS) ?_
                  clear hK K hn
                  refine M3.mix_fork3 rfl rfl rfl (fun K hK => ?_) (fun K hK => ?_) (fun K hK => ?_)
                  · obtain ⟨Aa, ca, rfl, hpa⟩ := p3
                    go_simp
                    refine (two_any key label ls Aa ca x1 HK.out hpa (by have := HLAB.out; omega) (by have := HL1.out; omega) (by have := HFL.out; omega)).mono ?_
                    rintro e x2 ⟨rfl, hn⟩
                    rw [HX.out, HY.out]
                    clear hpa
                    generalize Value.slice Aa ls.length ca = u3 at *
                    replace hS := hS.trans (hn.mono hS.size)
                    refine hK _ _ (fun _ _ => hS) ?_
                    clear hK K hn
                    try clear p3
                    repeat (refine M3.mix_pure rfl rfl (fun K hK => ?_); go_simp; refine hK _ ?_; clear hK K)
                    refine M3.mix_fork rfl rfl (fun K hK => ?_) (fun K hK => ?_)
                    · go_simp
                      have hn : Below x2.heap.size x2 (x2.alloc (.cells #[Value.int .u8 0, Value.int .u8 0, Value.int .u8 0, Value.int .u8 0, Value.int .u8 0, Value.int .u8 0, Value.int .u8 0, Value.int .u8 0, Value.int .u8 0, Value.int .u8 0, Value.int .u8 0, Value.int .u8 0, Value.int .u8 0, Value.int .u8 0, Value.int .u8 0, Value.int .u8 0, Value.int .u8 0, Value.int .u8 0, Value.int .u8 0, Value.int .u8 0, Value.int .u8 0, Value.int .u8 0, Value.int .u8 0, Value.int .u8 0, Value.int .u8 0, Value.int .u8 0, Value.int .u8 0, Value.int .u8 0, Value.int .u8 0, Value.int .u8 0, Value.int .u8 0, Value.int .u8 0] 25)) := (Below.refl _ _).alloc (Nat.le_refl _) _
                      have m8 : KeyP (x2.alloc (.cells #[Value.int .u8 0, Value.int .u8 0, Value.int .u8 0, Value.int .u8 0, Value.int .u8 0, Value.int .u8 0, Value.int .u8 0, Value.int .u8 0, Value.int .u8 0, Value.int .u8 0, Value.int .u8 0, Value.int .u8 0, Value.int .u8 0, Value.int .u8 0, Value.int .u8 0, Value.int .u8 0, Value.int .u8 0, Value.int .u8 0, Value.int .u8 0, Value.int .u8 0, Value.int .u8 0, Value.int .u8 0, Value.int .u8 0, Value.int .u8 0, Value.int .u8 0, Value.int .u8 0, Value.int .u8 0, Value.int .u8 0, Value.int .u8 0, Value.int .u8 0, Value.int .u8 0, Value.int .u8 0] 25)) W0.heap.size (.pointer (some ⟨x2.heap.size, 0, none⟩)) z32s := ⟨_, rfl, hS.size, Blk.new _ _ _⟩
                      generalize x2.alloc (.cells #[Value.int .u8 0, Value.int .u8 0, Value.int .u8 0, Value.int .u8 0, Value.int .u8 0, Value.int .u8 0, Value.int .u8 0, Value.int .u8 0, Value.int .u8 0, Value.int .u8 0, Value.int .u8 0, Value.int .u8 0, Value.int .u8 0, Value.int .u8 0, Value.int .u8 0, Value.int .u8 0, Value.int .u8 0, Value.int .u8 0, Value.int .u8 0, Value.int .u8 0, Value.int .u8 0, Value.int .u8 0, Value.int .u8 0, Value.int .u8 0, Value.int .u8 0, Value.int .u8 0, Value.int .u8 0, Value.int .u8 0, Value.int .u8 0, Value.int .u8 0, Value.int .u8 0, Value.int .u8 0] 25) = x3 at *
                      generalize Value.pointer (some ⟨x2.heap.size, 0, none⟩) = u8 at *
                      replace hS := hS.trans (hn.mono hS.size)
                      refine hK _ _ (fun _ _ => hS) ?_
                      clear hK K hn
                      exact hS0_3_4_8 u3 u8 x3 ⟨hS, m8⟩
                    · go_simp
                      have hn : Below x2.heap.size x2 (x2.alloc (.cells #[Value.int .u8 0, Value.int .u8 0, Value.int .u8 0, Value.int .u8 0, Value.int .u8 0, Value.int .u8 0, Value.int .u8 0, Value.int .u8 0, Value.int .u8 0, Value.int .u8 0, Value.int .u8 0, Value.int .u8 0, Value.int .u8 0, Value.int .u8 0, Value.int .u8 0, Value.int .u8 0, Value.int .u8 0, Value.int .u8 0, Value.int .u8 0, Value.int .u8 0, Value.int .u8 0, Value.int .u8 0, Value.int .u8 0, Value.int .u8 0, Value.int .u8 0, Value.int .u8 0, Value.int .u8 0, Value.int .u8 0, Value.int .u8 0, Value.int .u8 0, Value.int .u8 0, Value.int .u8 0] 25)) := (Below.refl _ _).alloc (Nat.le_refl _) _
                      have m9 : KeyP (x2.alloc (.cells #[Value.int .u8 0, Value.int .u8 0, Value.int .u8 0, Value.int .u8 0, Value.int .u8 0, Value.int .u8 0, Value.int .u8 0, Value.int .u8 0, Value.int .u8 0, Value.int .u8 0, Value.int .u8 0, Value.int .u8 0, Value.int .u8 0, Value.int .u8 0, Value.int .u8 0, Value.int .u8 0, Value.int .u8 0, Value.int .u8 0, Value.int .u8 0, Value.int .u8 0, Value.int .u8 0, Value.int .u8 0, Value.int .u8 0, Value.int .u8 0, Value.int .u8 0, Value.int .u8 0, Value.int .u8 0, Value.int .u8 0, Value.int .u8 0, Value.int .u8 0, Value.int .u8 0, Value.int .u8 0] 25)) W0.heap.size (.pointer (some ⟨x2.heap.size, 0, none⟩)) z32s := ⟨_, rfl, hS.size, Blk.new _ _ _⟩
                      generalize x2.alloc (.cells #[Value.int .u8 0, Value.int .u8 0, Value.int .u8 0, Value.int .u8 0, Value.int .u8 0, Value.int .u8 0, Value.int .u8 0, Value.int .u8 0, Value.int .u8 0, Value.int .u8 0, Value.int .u8 0, Value.int .u8 0, Value.int .u8 0, Value.int .u8 0, Value.int .u8 0, Value.int .u8 0, Value.int .u8 0, Value.int .u8 0, Value.int .u8 0, Value.int .u8 0, Value.int .u8 0, Value.int .u8 0, Value.int .u8 0, Value.int .u8 0, Value.int .u8 0, Value.int .u8 0, Value.int .u8 0, Value.int .u8 0, Value.int .u8 0, Value.int .u8 0, Value.int .u8 0, Value.int .u8 0] 25) = x4 at *
                      generalize Value.pointer (some ⟨x2.heap.size, 0, none⟩) = u9 at *
                      replace hS := hS.trans (hn.mono hS.size)
                      refine hK _ _ (fun _ _ => hS) ?_
                      clear hK K hn
                      exact hS0_3_4_9 u3 u9 x4 ⟨hS, m9⟩
                  · go_simp
                    have hn : Below x1.heap.size x1 (x1.alloc (.cells #[Value.int .u8 0, Value.int .u8 0, Value.int .u8 0, Value.int .u8 0, Value.int .u8 0, Value.int .u8 0, Value.int .u8 0, Value.int .u8 0, Value.int .u8 0, Value.int .u8 0, Value.int .u8 0, Value.int .u8 0, Value.int .u8 0, Value.int .u8 0, Value.int .u8 0, Value.int .u8 0, Value.int .u8 0, Value.int .u8 0, Value.int .u8 0, Value.int .u8 0, Value.int .u8 0, Value.int .u8 0, Value.int .u8 0, Value.int .u8 0, Value.int .u8 0, Value.int .u8 0, Value.int .u8 0, Value.int .u8 0, Value.int .u8 0, Value.int .u8 0, Value.int .u8 0, Value.int .u8 0] 25)) := (Below.refl _ _).alloc (Nat.le_refl _) _
                    have m8 : KeyP (x1.alloc (.cells #[Value.int .u8 0, Value.int .u8 0, Value.int .u8 0, Value.int .u8 0, Value.int .u8 0, Value.int .u8 0, Value.int .u8 0, Value.int .u8 0, Value.int .u8 0, Value.int .u8 0, Value.int .u8 0, Value.int .u8 0, Value.int .u8 0, Value.int .u8 0, Value.int .u8 0, Value.int .u8 0, Value.int .u8 0, Value.int .u8 0, Value.int .u8 0, Value.int .u8 0, Value.int .u8 0, Value.int .u8 0, Value.int .u8 0, Value.int .u8 0, Value.int .u8 0, Value.int .u8 0, Value.int .u8 0, Value.int .u8 0, Value.int .u8 0, Value.int .u8 0, Value.int .u8 0, Value.int .u8 0] 25)) W0.heap.size (.pointer (some ⟨x1.heap.size, 0, none⟩)) z32s := ⟨_, rfl, hS.size, Blk.new _ _ _⟩
                    generalize x1.alloc (.cells #[Value.int .u8 0, Value.int .u8 0, Value.int .u8 0, Value.int .u8 0, Value.int .u8 0, Value.int .u8 0, Value.int .u8 0, Value.int .u8 0, Value.int .u8 0, Value.int .u8 0, Value.int .u8 0, Value.int .u8 0, Value.int .u8 0, Value.int .u8 0, Value.int .u8 0, Value.int .u8 0, Value.int .u8 0, Value.int .u8 0, Value.int .u8 0, Value.int .u8 0, Value.int .u8 0, Value.int .u8 0, Value.int .u8 0, Value.int .u8 0, Value.int .u8 0, Value.int .u8 0, Value.int .u8 0, Value.int .u8 0, Value.int .u8 0, Value.int .u8 0, Value.int .u8 0, Value.int .u8 0] 25) = x5 at *
                    generalize Value.pointer (some ⟨x1.heap.size, 0, none⟩) = u8 at *
                    replace hS := hS.trans (hn.mono hS.size)
                    replace p3 := p3.below hn
                    refine hK _ _ (fun _ _ => hS) ?_
                    clear hK K hn
                    exact hS0_3_8 u3 u8 x5 ⟨hS, p3, m8⟩
                  · go_simp
                    have hn : Below x1.heap.size x1 (x1.alloc (.cells #[Value.int .u8 0, Value.int .u8 0, Value.int .u8 0, Value.int .u8 0, Value.int .u8 0, Value.int .u8 0, Value.int .u8 0, Value.int .u8 0, Value.int .u8 0, Value.int .u8 0, Value.int .u8 0, Value.int .u8 0, Value.int .u8 0, Value.int .u8 0, Value.int .u8 0, Value.int .u8 0, Value.int .u8 0, Value.int .u8 0, Value.int .u8 0, Value.int .u8 0, Value.int .u8 0, Value.int .u8 0, Value.int .u8 0, Value.int .u8 0, Value.int .u8 0, Value.int .u8 0, Value.int .u8 0, Value.int .u8 0, Value.int .u8 0, Value.int .u8 0, Value.int .u8 0, Value.int .u8 0] 25)) := (Below.refl _ _).alloc (Nat.le_refl _) _
                    have m9 : KeyP (x1.alloc (.cells #[Value.int .u8 0, Value.int .u8 0, Value.int .u8 0, Value.int .u8 0, Value.int .u8 0, Value.int .u8 0, Value.int .u8 0, Value.int .u8 0, Value.int .u8 0, Value.int .u8 0, Value.int .u8 0, Value.int .u8 0, Value.int .u8 0, Value.int .u8 0, Value.int .u8 0, Value.int .u8 0, Value.int .u8 0, Value.int .u8 0, Value.int .u8 0, Value.int .u8 0, Value.int .u8 0, Value.int .u8 0, Value.int .u8 0, Value.int .u8 0, Value.int .u8 0, Value.int .u8 0, Value.int .u8 0, Value.int .u8 0, Value.int .u8 0, Value.int .u8 0, Value.int .u8 0, Value.int .u8 0] 25)) W0.heap.size (.pointer (some ⟨x1.heap.size, 0, none⟩)) z32s := ⟨_, rfl, hS.size, Blk.new _ _ _⟩
                    generalize x1.alloc (.cells #[Value.int .u8 0, Value.int .u8 0, Value.int .u8 0, Value.int .u8 0, Value.int .u8 0, Value.int .u8 0, Value.int .u8 0, Value.int .u8 0, Value.int .u8 0, Value.int .u8 0, Value.int .u8 0, Value.int .u8 0, Value.int .u8 0, Value.int .u8 0, Value.int .u8 0, Value.int .u8 0, Value.int .u8 0, Value.int .u8 0, Value.int .u8 0, Value.int .u8 0, Value.int .u8 0, Value.int .u8 0, Value.int .u8 0, Value.int .u8 0, Value.int .u8 0, Value.int .u8 0, Value.int .u8 0, Value.int .u8 0, Value.int .u8 0, Value.int .u8 0, Value.int .u8 0, Value.int .u8 0] 25) = x6 at *
                    generalize Value.pointer (some ⟨x1.heap.size, 0, none⟩) = u9 at *
                    replace hS := hS.trans (hn.mono hS.size)
                    replace p3 := p3.below hn
                    refine hK _ _ (fun _ _ => hS) ?_
                    clear hK K hn
                    exact hS0_3_9 u3 u9 x6 ⟨hS, p3, m9⟩
                · go_simp
                  have hn : Below x0.heap.size x0 (x0.alloc (.cells #[Value.int .u8 0, Value.int .u8 0, Value.int .u8 0, Value.int .u8 0, Value.int .u8 0, Value.int .u8 0, Value.int .u8 0, Value.int .u8 0, Value.int .u8 0, Value.int .u8 0, Value.int .u8 0, Value.int .u8 0, Value.int .u8 0, Value.int .u8 0, Value.int .u8 0, Value.int .u8 0, Value.int .u8 0, Value.int .u8 0, Value.int .u8 0, Value.int .u8 0, Value.int .u8 0, Value.int .u8 0, Value.int .u8 0, Value.int .u8 0, Value.int .u8 0, Value.int .u8 0, Value.int .u8 0, Value.int .u8 0, Value.int .u8 0, Value.int .u8 0, Value.int .u8 0, Value.int .u8 0] 25)) := (Below.refl _ _).alloc (Nat.le_refl _) _
                  have m8 : KeyP (x0.alloc (.cells #[Value.int .u8 0, Value.int .u8 0, Value.int .u8 0, Value.int .u8 0, Value.int .u8 0, Value.int .u8 0, Value.int .u8 0, Value.int .u8 0, Value.int .u8 0, Value.int .u8 0, Value.int .u8 0, Value.int .u8 0, Value.int .u8 0, Value.int .u8 0, Value.int .u8 0, Value.int .u8 0, Value.int .u8 0, Value.int .u8 0, Value.int .u8 0, Value.int .u8 0, Value.int .u8 0, Value.int .u8 0, Value.int .u8 0, Value.int .u8 0, Value.int .u8 0, Value.int .u8 0, Value.int .u8 0, Value.int .u8 0, Value.int .u8 0, Value.int .u8 0, Value.int .u8 0, Value.int .u8 0] 25)) W0.heap.size (.pointer (some ⟨x0.heap.size, 0, none⟩)) z32s := ⟨_, rfl, hS.size, Blk.new _ _ _⟩
                  generalize x0.alloc (.cells #[Value.int .u8 0, Value.int .u8 0, Value.int .u8 0, Value.int .u8 0, Value.int .u8 0, Value.int .u8 0, Value.int .u8 0, Value.int .u8 0, Value.int .u8 0, Value.int .u8 0, Value.int .u8 0, Value.int .u8 0, Value.int .u8 0, Value.int .u8 0, Value.int .u8 0, Value.int .u8 0, Value.int .u8 0, Value.int .u8 0, Value.int .u8 0, Value.int .u8 0, Value.int .u8 0, Value.int .u8 0, Value.int .u8 0, Value.int .u8 0, Value.int .u8 0, Value.int .u8 0, Value.int .u8 0, Value.int .u8 0, Value.int .u8 0, Value.int .u8 0, Value.int .u8 0, Value.int .u8 0] 25) = x7 at *
                  generalize Value.pointer (some ⟨x0.heap.size, 0, none⟩) = u8 at *
                  replace hS := hS.trans (hn.mono hS.size)
                  refine hK _ _ (fun _ _ => hS) ?_
                  clear hK K hn
                  refine M3.mix_fork rfl rfl (fun K hK => ?_) (fun K hK => ?_)
                  · go_simp
                    refine (copied_any ls PA pc x7 ((HP.out.below HB.out.2).below hS) (by have := HL1.out; omega) (by have := HFL.out; omega)).mono ?_
                    rintro e x8 ⟨Aa, ca, rfl, hpa, hn⟩
                    have p3 : PartsV x8 (.slice Aa ls.length ca) ls := ⟨Aa, ca, rfl, hpa⟩
                    clear hpa
                    generalize Value.slice Aa ls.length ca = u3 at *
                    replace hS := hS.trans (hn.mono hS.size)
                    replace m8 := m8.below hn
                    refine hK _ _ (fun _ _ => hS) ?_
                    clear hK K hn
                    exact hS0_3_8 u3 u8 x8 ⟨hS, p3, m8⟩
                  · go_simp
                    have hn : Below x7.heap.size x7 (x7.alloc (.cells #[Value.int .u8 0, Value.int .u8 0, Value.int .u8 0, Value.int .u8 0, Value.int .u8 0, Value.int .u8 0, Value.int .u8 0, Value.int .u8 0, Value.int .u8 0, Value.int .u8 0, Value.int .u8 0, Value.int .u8 0, Value.int .u8 0, Value.int .u8 0, Value.int .u8 0, Value.int .u8 0, Value.int .u8 0, Value.int .u8 0, Value.int .u8 0, Value.int .u8 0, Value.int .u8 0, Value.int .u8 0, Value.int .u8 0, Value.int .u8 0, Value.int .u8 0, Value.int .u8 0, Value.int .u8 0, Value.int .u8 0, Value.int .u8 0, Value.int .u8 0, Value.int .u8 0, Value.int .u8 0] 25)) := (Below.refl _ _).alloc (Nat.le_refl _) _
                    have m9 : KeyP (x7.alloc (.cells #[Value.int .u8 0, Value.int .u8 0, Value.int .u8 0, Value.int .u8 0, Value.int .u8 0, Value.int .u8 0, Value.int .u8 0, Value.int .u8 0, Value.int .u8 0, Value.int .u8 0, Value.int .u8 0, Value.int .u8 0, Value.int .u8 0, Value.int .u8 0, Value.int .u8 0, Value.int .u8 0, Value.int .u8 0, Value.int .u8 0, Value.int .u8 0, Value.int .u8 0, Value.int .u8 0, Value.int .u8 0, Value.int .u8 0, Value.int .u8 0, Value.int .u8 0, Value.int .u8 0, Value.int .u8 0, Value.int .u8 0, Value.int .u8 0, Value.int .u8 0, Value.int .u8 0, Value.int .u8 0] 25)) W0.heap.size (.pointer (some ⟨x7.heap.size, 0, none⟩)) z32s := ⟨_, rfl, hS.size, Blk.new _ _ _⟩
                    have hne : (Value.pointer (some ⟨x7.heap.size, 0, none⟩)) ≠ u8 := by
                      obtain ⟨g, rfl, _, hB⟩ := m8
                      intro h
                      cases h
                      exact absurd hB.lt (Nat.lt_irrefl _)
                    generalize x7.alloc (.cells #[Value.int .u8 0, Value.int .u8 0, Value.int .u8 0, Value.int .u8 0, Value.int .u8 0, Value.int .u8 0, Value.int .u8 0, Value.int .u8 0, Value.int .u8 0, Value.int .u8 0, Value.int .u8 0, Value.int .u8 0, Value.int .u8 0, Value.int .u8 0, Value.int .u8 0, Value.int .u8 0, Value.int .u8 0, Value.int .u8 0, Value.int .u8 0, Value.int .u8 0, Value.int .u8 0, Value.int .u8 0, Value.int .u8 0, Value.int .u8 0, Value.int .u8 0, Value.int .u8 0, Value.int .u8 0, Value.int .u8 0, Value.int .u8 0, Value.int .u8 0, Value.int .u8 0, Value.int .u8 0] 25) = x9 at *
                    generalize Value.pointer (some ⟨x7.heap.size, 0, none⟩) = u9 at *
                    replace hne := Ne.symm hne
                    replace hS := hS.trans (hn.mono hS.size)
                    replace m8 := m8.below hn
                    refine hK _ _ (fun _ _ => hS) ?_
                    clear hK K hn
                    exact hS0_8_9 u8 u9 x9 ⟨hS, m8, m9, hne⟩
                · go_simp
                  have hn : Below x0.heap.size x0 (x0.alloc (.cells #[Value.int .u8 0, Value.int .u8 0, Value.int .u8 0, Value.int .u8 0, Value.int .u8 0, Value.int .u8 0, Value.int .u8 0, Value.int .u8 0, Value.int .u8 0, Value.int .u8 0, Value.int .u8 0, Value.int .u8 0, Value.int .u8 0, Value.int .u8 0, Value.int .u8 0, Value.int .u8 0, Value.int .u8 0, Value.int .u8 0, Value.int .u8 0, Value.int .u8 0, Value.int .u8 0, Value.int .u8 0, Value.int .u8 0, Value.int .u8 0, Value.int .u8 0, Value.int .u8 0, Value.int .u8 0, Value.int .u8 0, Value.int .u8 0, Value.int .u8 0, Value.int .u8 0, Value.int .u8 0] 25)) := (Below.refl _ _).alloc (Nat.le_refl _) _
                  have m9 : KeyP (x0.alloc (.cells #[Value.int .u8 0, Value.int .u8 0, Value.int .u8 0, Value.int .u8 0, Value.int .u8 0, Value.int .u8 0, Value.int .u8 0, Value.int .u8 0, Value.int .u8 0, Value.int .u8 0, Value.int .u8 0, Value.int .u8 0, Value.int .u8 0, Value.int .u8 0, Value.int .u8 0, Value.int .u8 0, Value.int .u8 0, Value.int .u8 0, Value.int .u8 0, Value.int .u8 0, Value.int .u8 0, Value.int .u8 0, Value.int .u8 0, Value.int .u8 0, Value.int .u8 0, Value.int .u8 0, Value.int .u8 0, Value.int .u8 0, Value.int .u8 0, Value.int .u8 0, Value.int .u8 0, Value.int .u8 0] 25)) W0.heap.size (.pointer (some ⟨x0.heap.size, 0, none⟩)) z32s := ⟨_, rfl, hS.size, Blk.new _ _ _⟩
                  generalize x0.alloc (.cells #[Value.int .u8 0, Value.int .u8 0, Value.int .u8 0, Value.int .u8 0, Value.int .u8 0, Value.int .u8 0, Value.int .u8 0, Value.int .u8 0, Value.int .u8 0, Value.int .u8 0, Value.int .u8 0, Value.int .u8 0, Value.int .u8 0, Value.int .u8 0, Value.int .u8 0, Value.int .u8 0, Value.int .u8 0, Value.int .u8 0, Value.int .u8 0, Value.int .u8 0, Value.int .u8 0, Value.int .u8 0, Value.int .u8 0, Value.int .u8 0, Value.int .u8 0, Value.int .u8 0, Value.int .u8 0, Value.int .u8 0, Value.int .u8 0, Value.int .u8 0, Value.int .u8 0, Value.int .u8 0] 25) = x10 at *
                  generalize Value.pointer (some ⟨x0.heap.size, 0, none⟩) = u9 at *
                  replace hS := hS.trans (hn.mono hS.size)
                  refine hK _ _ (fun _ _ => hS) ?_
                  clear hK K hn
                  refine M3.mix_fork rfl rfl (fun K hK => ?_) (fun K hK => ?_)
                  · go_simp
                    refine (copied_any ls PA pc x10 ((HP.out.below HB.out.2).below hS) (by have := HL1.out; omega) (by have := HFL.out; omega)).mono ?_
                    rintro e x11 ⟨Aa, ca, rfl, hpa, hn⟩
                    have p3 : PartsV x11 (.slice Aa ls.length ca) ls := ⟨Aa, ca, rfl, hpa⟩
                    clear hpa
                    generalize Value.slice Aa ls.length ca = u3 at *
                    replace hS := hS.trans (hn.mono hS.size)
                    replace m9 := m9.below hn
                    refine hK _ _ (fun _ _ => hS) ?_
                    clear hK K hn
                    exact hS0_3_9 u3 u9 x11 ⟨hS, p3, m9⟩
                  · go_simp
                    have hn : Below x10.heap.size x10 (x10.alloc (.cells #[Value.int .u8 0, Value.int .u8 0, Value.int .u8 0, Value.int .u8 0, Value.int .u8 0, Value.int .u8 0, Value.int .u8 0, Value.int .u8 0, Value.int .u8 0, Value.int .u8 0, Value.int .u8 0, Value.int .u8 0, Value.int .u8 0, Value.int .u8 0, Value.int .u8 0, Value.int .u8 0, Value.int .u8 0, Value.int .u8 0, Value.int .u8 0, Value.int .u8 0, Value.int .u8 0, Value.int .u8 0, Value.int .u8 0, Value.int .u8 0, Value.int .u8 0, Value.int .u8 0, Value.int .u8 0, Value.int .u8 0, Value.int .u8 0, Value.int .u8 0, Value.int .u8 0, Value.int .u8 0] 25)) := (Below.refl _ _).alloc (Nat.le_refl _) _
                    have m8 : KeyP (x10.alloc (.cells #[Value.int .u8 0, Value.int .u8 0, Value.int .u8 0, Value.int .u8 0, Value.int .u8 0, Value.int .u8 0, Value.int .u8 0, Value.int .u8 0, Value.int .u8 0, Value.int .u8 0, Value.int .u8 0, Value.int .u8 0, Value.int .u8 0, Value.int .u8 0, Value.int .u8 0, Value.int .u8 0, Value.int .u8 0, Value.int .u8 0, Value.int .u8 0, Value.int .u8 0, Value.int .u8 0, Value.int .u8 0, Value.int .u8 0, Value.int .u8 0, Value.int .u8 0, Value.int .u8 0, Value.int .u8 0, Value.int .u8 0, Value.int .u8 0, Value.int .u8 0, Value.int .u8 0, Value.int .u8 0] 25)) W0.heap.size (.pointer (some ⟨x10.heap.size, 0, none⟩)) z32s := ⟨_, rfl, hS.size, Blk.new _ _ _⟩
                    have hne : (Value.pointer (some ⟨x10.heap.size, 0, none⟩)) ≠ u9 := by
                      obtain ⟨g, rfl, _, hB⟩ := m9
                      intro h
                      cases h
                      exact absurd hB.lt (Nat.lt_irrefl _)
                    generalize x10.alloc (.cells #[Value.int .u8 0, Value.int .u8 0, Value.int .u8 0, Value.int .u8 0, Value.int .u8 0, Value.int .u8 0, Value.int .u8 0, Value.int .u8 0, Value.int .u8 0, Value.int .u8 0, Value.int .u8 0, Value.int .u8 0, Value.int .u8 0, Value.int .u8 0, Value.int .u8 0, Value.int .u8 0, Value.int .u8 0, Value.int .u8 0, Value.int .u8 0, Value.int .u8 0, Value.int .u8 0, Value.int .u8 0, Value.int .u8 0, Value.int .u8 0, Value.int .u8 0, Value.int .u8 0, Value.int .u8 0, Value.int .u8 0, Value.int .u8 0, Value.int .u8 0, Value.int .u8 0, Value.int .u8 0] 25) = x12 at *
                    generalize Value.pointer (some ⟨x10.heap.size, 0, none⟩) = u8 at *
                    replace hS := hS.trans (hn.mono hS.size)
                    replace m9 := m9.below hn
                    refine hK _ _ (fun _ _ => hS) ?_
                    clear hK K hn
                    exact hS0_8_9 u8 u9 x12 ⟨hS, m8, m9, hne⟩
              · intro u8 u9 wx hA
                obtain ⟨hS, m8, m9, hne⟩ := hA
                refine M3.mix_eff rfl rfl (fun K hK => ?_)
                go_simp
                refine (copied_any ls PA pc wx ((HP.out.below HB.out.2).below hS) (by have := HL1.out; omega) (by have := HFL.out; omega)).mono ?_
                rintro e x13 ⟨Aa, ca, rfl, hpa, hn⟩
                have p3 : PartsV x13 (.slice Aa ls.length ca) ls := ⟨Aa, ca, rfl, hpa⟩
                clear hpa
                generalize Value.slice Aa ls.length ca = u3 at *
                replace hS := hS.trans (hn.mono hS.size)
                replace m8 := m8.below hn
                replace m9 := m9.below hn
                refine hK _ _ (fun _ _ => hS) ?_
                clear hK K hn
                exact hS0_3_8_9 u3 u8 u9 x13 ⟨hS, p3, m8, m9, hne⟩
            · intro u3 u9 wx hA
              obtain ⟨hS, p3, m9⟩ := hA
              refine M3.mix_fork rfl rfl (fun K hK => ?_) (fun K hK => ?_)
              · obtain ⟨Aa, ca, rfl, hpa⟩ := p3
                go_simp
                refine (two_any key label ls Aa ca wx HK.out hpa (by have := HLAB.out; omega) (by have := HL1.out; omega) (by have := HFL.out; omega)).mono ?_
                rintro e x14 ⟨rfl, hn⟩
                rw [HX.out, HY.out]
                clear hpa
                generalize Value.slice Aa ls.length ca = u3 at *
                replace hS := hS.trans (hn.mono hS.size)
                replace m9 := m9.below hn
                refine hK _ _ (fun _ _ => hS) ?_
                clear hK K hn
                try clear p3
                repeat (refine M3.mix_pure rfl rfl (fun K hK => ?_); go_simp; refine hK _ ?_; clear hK K)
                exact hS0_3_4_9 u3 u9 x14 ⟨hS, m9⟩
              · go_simp
                have hn : Below wx.heap.size wx (wx.alloc (.cells #[Value.int .u8 0, Value.int .u8 0, Value.int .u8 0, Value.int .u8 0, Value.int .u8 0, Value.int .u8 0, Value.int .u8 0, Value.int .u8 0, Value.int .u8 0, Value.int .u8 0, Value.int .u8 0, Value.int .u8 0, Value.int .u8 0, Value.int .u8 0, Value.int .u8 0, Value.int .u8 0, Value.int .u8 0, Value.int .u8 0, Value.int .u8 0, Value.int .u8 0, Value.int .u8 0, Value.int .u8 0, Value.int .u8 0, Value.int .u8 0, Value.int .u8 0, Value.int .u8 0, Value.int .u8 0, Value.int .u8 0, Value.int .u8 0, Value.int .u8 0, Value.int .u8 0, Value.int .u8 0] 25)) := (Below.refl _ _).alloc (Nat.le_refl _) _
                have m8 : KeyP (wx.alloc (.cells #[Value.int .u8 0, Value.int .u8 0, Value.int .u8 0, Value.int .u8 0, Value.int .u8 0, Value.int .u8 0, Value.int .u8 0, Value.int .u8 0, Value.int .u8 0, Value.int .u8 0, Value.int .u8 0, Value.int .u8 0, Value.int .u8 0, Value.int .u8 0, Value.int .u8 0, Value.int .u8 0, Value.int .u8 0, Value.int .u8 0, Value.int .u8 0, Value.int .u8 0, Value.int .u8 0, Value.int .u8 0, Value.int .u8 0, Value.int .u8 0, Value.int .u8 0, Value.int .u8 0, Value.int .u8 0, Value.int .u8 0, Value.int .u8 0, Value.int .u8 0, Value.int .u8 0, Value.int .u8 0] 25)) W0.heap.size (.pointer (some ⟨wx.heap.size, 0, none⟩)) z32s := ⟨_, rfl, hS.size, Blk.new _ _ _⟩
                have hne : (Value.pointer (some ⟨wx.heap.size, 0, none⟩)) ≠ u9 := by
                  obtain ⟨g, rfl, _, hB⟩ := m9
                  intro h
                  cases h
                  exact absurd hB.lt (Nat.lt_irrefl _)
                generalize wx.alloc (.cells #[Value.int .u8 0, Value.int .u8 0, Value.int .u8 0, Value.int .u8 0, Value.int .u8 0, Value.int .u8 0, Value.int .u8 0, Value.int .u8 0, Value.int .u8 0, Value.int .u8 0, Value.int .u8 0, Value.int .u8 0, Value.int .u8 0, Value.int .u8 0, Value.int .u8 0, Value.int .u8 0, Value.int .u8 0, Value.int .u8 0, Value.int .u8 0, Value.int .u8 0, Value.int .u8 0, Value.int .u8 0, Value.int .u8 0, Value.int .u8 0, Value.int .u8 0, Value.int .u8 0, Value.int .u8 0, Value.int .u8 0, Value.int .u8 0, Value.int .u8 0, Value.int .u8 0, Value.int .u8 0] 25) = x15 at *
                generalize Value.pointer (some ⟨wx.heap.size, 0, none⟩) = u8 at *
                replace hS := hS.trans (hn.mono hS.size)
                replace p3 := p3.below hn
                replace m9 := m9.below hn
                refine hK _ _ (fun _ _ => hS) ?_
                clear hK K hn
                exact hS0_3_8_9 u3 u8 u9 x15 ⟨hS, p3, m8, m9, hne⟩
          · intro u3 u8 wx hA
            obtain ⟨hS, p3, m8⟩ := hA
            refine M3.mix_fork rfl rfl (fun K hK => ?_) (fun K hK => ?_)
            · obtain ⟨Aa, ca, rfl, hpa⟩ := p3
              go_simp
              refine (two_any key label ls Aa ca wx HK.out hpa (by have := HLAB.out; omega) (by have := HL1.out; omega) (by have := HFL.out; omega)).mono ?_
              rintro e x16 ⟨rfl, hn⟩
              rw [HX.out, HY.out]
              clear hpa
              generalize Value.slice Aa ls.length ca = u3 at *
              replace hS := hS.trans (hn.mono hS.size)
              replace m8 := m8.below hn
              refine hK _ _ (fun _ _ => hS) ?_
              clear hK K hn
              try clear p3
              repeat (refine M3.mix_pure rfl rfl (fun K hK => ?_); go_simp; refine hK _ ?_; clear hK K)
              exact hS0_3_4_8 u3 u8 x16 ⟨hS, m8⟩
            · go_simp
              have hn : Below wx.heap.size wx (wx.alloc (.cells #[Value.int .u8 0, Value.int .u8 0, Value.int .u8 0, Value.int .u8 0, Value.int .u8 0, Value.int .u8 0, Value.int .u8 0, Value.int .u8 0, Value.int .u8 0, Value.int .u8 0, Value.int .u8 0, Value.int .u8 0, Value.int .u8 0, Value.int .u8 0, Value.int .u8 0, Value.int .u8 0, Value.int .u8 0, Value.int .u8 0, Value.int .u8 0, Value.int .u8 0, Value.int .u8 0, Value.int .u8 0, Value.int .u8 0, Value.int .u8 0, Value.int .u8 0, Value.int .u8 0, Value.int .u8 0, Value.int .u8 0, Value.int .u8 0, Value.int .u8 0, Value.int .u8 0, Value.int .u8 0] 25)) := (Below.refl _ _).alloc (Nat.le_refl _) _
              have m9 : KeyP (wx.alloc (.cells #[Value.int .u8 0, Value.int .u8 0, Value.int .u8 0, Value.int .u8 0, Value.int .u8 0, Value.int .u8 0, Value.int .u8 0, Value.int .u8 0, Value.int .u8 0, Value.int .u8 0, Value.int .u8 0, Value.int .u8 0, Value.int .u8 0, Value.int .u8 0, Value.int .u8 0, Value.int .u8 0, Value.int .u8 0, Value.int .u8 0, Value.int .u8 0, Value.int .u8 0, Value.int .u8 0, Value.int .u8 0, Value.int .u8 0, Value.int .u8 0, Value.int .u8 0, Value.int .u8 0, Value.int .u8 0, Value.int .u8 0, Value.int .u8 0, Value.int .u8 0, Value.int .u8 0, Value.int .u8 0] 25)) W0.heap.size (.pointer (some ⟨wx.heap.size, 0, none⟩)) z32s := ⟨_, rfl, hS.size, Blk.new _ _ _⟩
              have hne : (Value.pointer (some ⟨wx.heap.size, 0, none⟩)) ≠ u8 := by
                obtain ⟨g, rfl, _, hB⟩ := m8
                intro h
                cases h
                exact absurd hB.lt (Nat.lt_irrefl _)
              generalize wx.alloc (.cells #[Value.int .u8 0, Value.int .u8 0, Value.int .u8 0, Value.int .u8 0, Value.int .u8 0, Value.int .u8 0, Value.int .u8 0, Value.int .u8 0, Value.int .u8 0, Value.int .u8 0, Value.int .u8 0, Value.int .u8 0, Value.int .u8 0, Value.int .u8 0, Value.int .u8 0, Value.int .u8 0, Value.int .u8 0, Value.int .u8 0, Value.int .u8 0, Value.int .u8 0, Value.int .u8 0, Value.int .u8 0, Value.int .u8 0, Value.int .u8 0, Value.int .u8 0, Value.int .u8 0, Value.int .u8 0, Value.int .u8 0, Value.int .u8 0, Value.int .u8 0, Value.int .u8 0, Value.int .u8 0] 25) = x17 at *
              generalize Value.pointer (some ⟨wx.heap.size, 0, none⟩) = u9 at *
              replace hne := Ne.symm hne
              replace hS := hS.trans (hn.mono hS.size)
              replace p3 := p3.below hn
              replace m8 := m8.below hn
              refine hK _ _ (fun _ _ => hS) ?_
              clear hK K hn
              exact hS0_3_8_9 u3 u8 u9 x17 ⟨hS, p3, m8, m9, hne⟩
        · intro u3 u8 u9 wx hA
          obtain ⟨hS, p3, m8, m9, hne⟩ := hA
          refine M3.mix_eff rfl rfl (fun K hK => ?_)
          obtain ⟨Aa, ca, rfl, hpa⟩ := p3
          go_simp
          refine (two_any key label ls Aa ca wx HK.out hpa (by have := HLAB.out; omega) (by have := HL1.out; omega) (by have := HFL.out; omega)).mono ?_
          rintro e x18 ⟨rfl, hn⟩
          rw [HX.out, HY.out]
          clear hpa
          generalize Value.slice Aa ls.length ca = u3 at *
          replace hS := hS.trans (hn.mono hS.size)
          replace m8 := m8.below hn
          replace m9 := m9.below hn
          refine hK _ _ (fun _ _ => hS) ?_
          clear hK K hn
          try clear p3
          repeat (refine M3.mix_pure rfl rfl (fun K hK => ?_); go_simp; refine hK _ ?_; clear hK K)
          exact hS0_3_4_8_9 u3 u8 u9 x18 ⟨hS, m8, m9, hne⟩
      · intro u3 u9 wx hA
        obtain ⟨hS, m9⟩ := hA
        refine M3.mix_eff rfl rfl (fun K hK => ?_)
        go_simp
        have hn : Below wx.heap.size wx (wx.alloc (.cells #[Value.int .u8 0, Value.int .u8 0, Value.int .u8 0, Value.int .u8 0, Value.int .u8 0, Value.int .u8 0, Value.int .u8 0, Value.int .u8 0, Value.int .u8 0, Value.int .u8 0, Value.int .u8 0, Value.int .u8 0, Value.int .u8 0, Value.int .u8 0, Value.int .u8 0, Value.int .u8 0, Value.int .u8 0, Value.int .u8 0, Value.int .u8 0, Value.int .u8 0, Value.int .u8 0, Value.int .u8 0, Value.int .u8 0, Value.int .u8 0, Value.int .u8 0, Value.int .u8 0, Value.int .u8 0, Value.int .u8 0, Value.int .u8 0, Value.int .u8 0, Value.int .u8 0, Value.int .u8 0] 25)) := (Below.refl _ _).alloc (Nat.le_refl _) _
        have m8 : KeyP (wx.alloc (.cells #[Value.int .u8 0, Value.int .u8 0, Value.int .u8 0, Value.int .u8 0, Value.int .u8 0, Value.int .u8 0, Value.int .u8 0, Value.int .u8 0, Value.int .u8 0, Value.int .u8 0, Value.int .u8 0, Value.int .u8 0, Value.int .u8 0, Value.int .u8 0, Value.int .u8 0, Value.int .u8 0, Value.int .u8 0, Value.int .u8 0, Value.int .u8 0, Value.int .u8 0, Value.int .u8 0, Value.int .u8 0, Value.int .u8 0, Value.int .u8 0, Value.int .u8 0, Value.int .u8 0, Value.int .u8 0, Value.int .u8 0, Value.int .u8 0, Value.int .u8 0, Value.int .u8 0, Value.int .u8 0] 25)) W0.heap.size (.pointer (some ⟨wx.heap.size, 0, none⟩)) z32s := ⟨_, rfl, hS.size, Blk.new _ _ _⟩
        have hne : (Value.pointer (some ⟨wx.heap.size, 0, none⟩)) ≠ u9 := by
          obtain ⟨g, rfl, _, hB⟩ := m9
          intro h
          cases h
          exact absurd hB.lt (Nat.lt_irrefl _)
        generalize wx.alloc (.cells #[Value.int .u8 0, Value.int .u8 0, Value.int .u8 0, Value.int .u8 0, Value.int .u8 0, Value.int .u8 0, Value.int .u8 0, Value.int .u8 0, Value.int .u8 0, Value.int .u8 0, Value.int .u8 0, Value.int .u8 0, Value.int .u8 0, Value.int .u8 0, Value.int .u8 0, Value.int .u8 0, Value.int .u8 0, Value.int .u8 0, Value.int .u8 0, Value.int .u8 0, Value.int .u8 0, Value.int .u8 0, Value.int .u8 0, Value.int .u8 0, Value.int .u8 0, Value.int .u8 0, Value.int .u8 0, Value.int .u8 0, Value.int .u8 0, Value.int .u8 0, Value.int .u8 0, Value.int .u8 0] 25) = x19 at *
        generalize Value.pointer (some ⟨wx.heap.size, 0, none⟩) = u8 at *
        replace hS := hS.trans (hn.mono hS.size)
        replace m9 := m9.below hn
        refine hK _ _ (fun _ _ => hS) ?_
        clear hK K hn
        exact hS0_3_4_8_9 u3 u8 u9 x19 ⟨hS, m8, m9, hne⟩
    · intro u3 u8 wx hA
      obtain ⟨hS, m8⟩ := hA
      refine M3.mix_eff rfl rfl (fun K hK => ?_)
      go_simp
      have hn : Below wx.heap.size wx (wx.alloc (.cells #[Value.int .u8 0, Value.int .u8 0, Value.int .u8 0, Value.int .u8 0, Value.int .u8 0, Value.int .u8 0, Value.int .u8 0, Value.int .u8 0, Value.int .u8 0, Value.int .u8 0, Value.int .u8 0, Value.int .u8 0, Value.int .u8 0, Value.int .u8 0, Value.int .u8 0, Value.int .u8 0, Value.int .u8 0, Value.int .u8 0, Value.int .u8 0, Value.int .u8 0, Value.int .u8 0, Value.int .u8 0, Value.int .u8 0, Value.int .u8 0, Value.int .u8 0, Value.int .u8 0, Value.int .u8 0, Value.int .u8 0, Value.int .u8 0, Value.int .u8 0, Value.int .u8 0, Value.int .u8 0] 25)) := (Below.refl _ _).alloc (Nat.le_refl _) _
      have m9 : KeyP (wx.alloc (.cells #[Value.int .u8 0, Value.int .u8 0, Value.int .u8 0, Value.int .u8 0, Value.int .u8 0, Value.int .u8 0, Value.int .u8 0, Value.int .u8 0, Value.int .u8 0, Value.int .u8 0, Value.int .u8 0, Value.int .u8 0, Value.int .u8 0, Value.int .u8 0, Value.int .u8 0, Value.int .u8 0, Value.int .u8 0, Value.int .u8 0, Value.int .u8 0, Value.int .u8 0, Value.int .u8 0, Value.int .u8 0, Value.int .u8 0, Value.int .u8 0, Value.int .u8 0, Value.int .u8 0, Value.int .u8 0, Value.int .u8 0, Value.int .u8 0, Value.int .u8 0, Value.int .u8 0, Value.int .u8 0] 25)) W0.heap.size (.pointer (some ⟨wx.heap.size, 0, none⟩)) z32s := ⟨_, rfl, hS.size, Blk.new _ _ _⟩
      have hne : (Value.pointer (some ⟨wx.heap.size, 0, none⟩)) ≠ u8 := by
        obtain ⟨g, rfl, _, hB⟩ := m8
        intro h
        cases h
        exact absurd hB.lt (Nat.lt_irrefl _)
      generalize wx.alloc (.cells #[Value.int .u8 0, Value.int .u8 0, Value.int .u8 0, Value.int .u8 0, Value.int .u8 0, Value.int .u8 0, Value.int .u8 0, Value.int .u8 0, Value.int .u8 0, Value.int .u8 0, Value.int .u8 0, Value.int .u8 0, Value.int .u8 0, Value.int .u8 0, Value.int .u8 0, Value.int .u8 0, Value.int .u8 0, Value.int .u8 0, Value.int .u8 0, Value.int .u8 0, Value.int .u8 0, Value.int .u8 0, Value.int .u8 0, Value.int .u8 0, Value.int .u8 0, Value.int .u8 0, Value.int .u8 0, Value.int .u8 0, Value.int .u8 0, Value.int .u8 0, Value.int .u8 0, Value.int .u8 0] 25) = x20 at *
      generalize Value.pointer (some ⟨wx.heap.size, 0, none⟩) = u9 at *
      replace hne := Ne.symm hne
      replace hS := hS.trans (hn.mono hS.size)
      replace m8 := m8.below hn
      refine hK _ _ (fun _ _ => hS) ?_
      clear hK K hn
      exact hS0_3_4_8_9 u3 u8 u9 x20 ⟨hS, m8, m9, hne⟩
  · intro u3 u8 u9 wx hA
    obtain ⟨hS, m8, m9, hne⟩ := hA
    refine M3.mix_eff rfl rfl (fun K hK => ?_)
    obtain ⟨gg, rfl, hgB, hgm⟩ := m8
    refine step_store_rowS rfl 25 _ _ rfl _ _ rfl rfl 25 _ hgm (by rw [encs_size, HXL.out]; exact sizeKey0) (by rw [encs_size, encs_size, HXL.out]; rfl) (encs_one _ _) ?_
    have k8 : KeyP (wx.setRow gg (encs .u8 X)) W0.heap.size (.pointer (some ⟨gg, 0, none⟩)) X := ⟨gg, rfl, hgB, hgm.row _⟩
    replace m9 : KeyP (wx.setRow gg (encs .u8 X)) W0.heap.size u9 z32s := by
      obtain ⟨g2, h2, h3, h4⟩ := m9
      exact ⟨g2, h2, h3, h4.farRow (fun hx => hne (by rw [h2, hx])) _⟩
    replace hS := below_setRow hS hgB (encs .u8 X)
    clear hgm hgB
    generalize wx.setRow gg (encs .u8 X) = x21 at *
    generalize Value.pointer (some ⟨gg, 0, none⟩) = u8 at *
    dsimp only [Act.put]
    refine hK _ _ (fun _ _ => hS) ?_
    clear hK K
    try clear m8
    refine M3.mix_eff rfl rfl (fun K hK => ?_)
    obtain ⟨gg, rfl, hgB, hgm⟩ := m9
    refine step_store_rowS rfl 25 _ _ rfl _ _ rfl rfl 25 _ hgm (by rw [encs_size, HYL.out]; exact sizeKey0) (by rw [encs_size, encs_size, HYL.out]; rfl) (encs_one _ _) ?_
    have k9 : KeyP (x21.setRow gg (encs .u8 Y)) W0.heap.size (.pointer (some ⟨gg, 0, none⟩)) Y := ⟨gg, rfl, hgB, hgm.row _⟩
    replace k8 : KeyP (x21.setRow gg (encs .u8 Y)) W0.heap.size u8 X := by
      obtain ⟨g2, h2, h3, h4⟩ := k8
      exact ⟨g2, h2, h3, h4.farRow (fun hx => hne (by rw [h2, hx])) _⟩
    replace hS := below_setRow hS hgB (encs .u8 Y)
    clear hgm hgB
    generalize x21.setRow gg (encs .u8 Y) = x22 at *
    generalize Value.pointer (some ⟨gg, 0, none⟩) = u9 at *
    dsimp only [Act.put]
    refine hK _ _ (fun _ _ => hS) ?_
    clear hK K
    try clear m9
    refine M3.mix_nil ?_
    obtain ⟨g8, rfl, _, b8⟩ := k8
    obtain ⟨g9, rfl, _, b9⟩ := k9
    have hb := HB.out.2.trans (hS.mono HB.out.2.size)
    have m0 := HB.out.1.below hS HB.out.1.lt
    clear hne hS
    go_wp2_with (first | (refine wpList_load_row rfl 25 _ rfl w.heap.size rfl 25 _ (0, 0) _ m0 Try.underlying25 rfl (by rw [encs_size, HK.out]; exact sizeKey0) ?_) | fail)
    refine (rtwo_any key label ls PA pc x22 HK.out (HP.out.below hb) (by have := HLAB.out; omega) (by have := HL1.out; omega) (by have := HFL.out; omega)).mono ?_
    rintro e y1 ⟨rfl, hn⟩
    rw [HX.out, HY.out]
    replace b8 := b8.below hn b8.lt
    replace b9 := b9.below hn b9.lt
    replace m0 := m0.below hn m0.lt
    replace hb := hb.trans (hn.mono hb.size)
    clear hn
    obtain ⟨n2, n3, hn⟩ : Blk ((y1.alloc (.cells #[Value.int .u8 0, Value.int .u8 0, Value.int .u8 0, Value.int .u8 0, Value.int .u8 0, Value.int .u8 0, Value.int .u8 0, Value.int .u8 0, Value.int .u8 0, Value.int .u8 0, Value.int .u8 0, Value.int .u8 0, Value.int .u8 0, Value.int .u8 0, Value.int .u8 0, Value.int .u8 0, Value.int .u8 0, Value.int .u8 0, Value.int .u8 0, Value.int .u8 0, Value.int .u8 0, Value.int .u8 0, Value.int .u8 0, Value.int .u8 0, Value.int .u8 0, Value.int .u8 0, Value.int .u8 0, Value.int .u8 0, Value.int .u8 0, Value.int .u8 0, Value.int .u8 0, Value.int .u8 0] 25)).alloc (.cells #[Value.int .u8 0, Value.int .u8 0, Value.int .u8 0, Value.int .u8 0, Value.int .u8 0, Value.int .u8 0, Value.int .u8 0, Value.int .u8 0, Value.int .u8 0, Value.int .u8 0, Value.int .u8 0, Value.int .u8 0, Value.int .u8 0, Value.int .u8 0, Value.int .u8 0, Value.int .u8 0, Value.int .u8 0, Value.int .u8 0, Value.int .u8 0, Value.int .u8 0, Value.int .u8 0, Value.int .u8 0, Value.int .u8 0, Value.int .u8 0, Value.int .u8 0, Value.int .u8 0, Value.int .u8 0, Value.int .u8 0, Value.int .u8 0, Value.int .u8 0, Value.int .u8 0, Value.int .u8 0] 25)) y1.heap.size (encs .u8 z32s) 25 ∧ Blk ((y1.alloc (.cells #[Value.int .u8 0, Value.int .u8 0, Value.int .u8 0, Value.int .u8 0, Value.int .u8 0, Value.int .u8 0, Value.int .u8 0, Value.int .u8 0, Value.int .u8 0, Value.int .u8 0, Value.int .u8 0, Value.int .u8 0, Value.int .u8 0, Value.int .u8 0, Value.int .u8 0, Value.int .u8 0, Value.int .u8 0, Value.int .u8 0, Value.int .u8 0, Value.int .u8 0, Value.int .u8 0, Value.int .u8 0, Value.int .u8 0, Value.int .u8 0, Value.int .u8 0, Value.int .u8 0, Value.int .u8 0, Value.int .u8 0, Value.int .u8 0, Value.int .u8 0, Value.int .u8 0, Value.int .u8 0] 25)).alloc (.cells #[Value.int .u8 0, Value.int .u8 0, Value.int .u8 0, Value.int .u8 0, Value.int .u8 0, Value.int .u8 0, Value.int .u8 0, Value.int .u8 0, Value.int .u8 0, Value.int .u8 0, Value.int .u8 0, Value.int .u8 0, Value.int .u8 0, Value.int .u8 0, Value.int .u8 0, Value.int .u8 0, Value.int .u8 0, Value.int .u8 0, Value.int .u8 0, Value.int .u8 0, Value.int .u8 0, Value.int .u8 0, Value.int .u8 0, Value.int .u8 0, Value.int .u8 0, Value.int .u8 0, Value.int .u8 0, Value.int .u8 0, Value.int .u8 0, Value.int .u8 0, Value.int .u8 0, Value.int .u8 0] 25)) (y1.heap.size + 1) (encs .u8 z32s) 25 ∧ Below y1.heap.size y1 ((y1.alloc (.cells #[Value.int .u8 0, Value.int .u8 0, Value.int .u8 0, Value.int .u8 0, Value.int .u8 0, Value.int .u8 0, Value.int .u8 0, Value.int .u8 0, Value.int .u8 0, Value.int .u8 0, Value.int .u8 0, Value.int .u8 0, Value.int .u8 0, Value.int .u8 0, Value.int .u8 0, Value.int .u8 0, Value.int .u8 0, Value.int .u8 0, Value.int .u8 0, Value.int .u8 0, Value.int .u8 0, Value.int .u8 0, Value.int .u8 0, Value.int .u8 0, Value.int .u8 0, Value.int .u8 0, Value.int .u8 0, Value.int .u8 0, Value.int .u8 0, Value.int .u8 0, Value.int .u8 0, Value.int .u8 0] 25)).alloc (.cells #[Value.int .u8 0, Value.int .u8 0, Value.int .u8 0, Value.int .u8 0, Value.int .u8 0, Value.int .u8 0, Value.int .u8 0, Value.int .u8 0, Value.int .u8 0, Value.int .u8 0, Value.int .u8 0, Value.int .u8 0, Value.int .u8 0, Value.int .u8 0, Value.int .u8 0, Value.int .u8 0, Value.int .u8 0, Value.int .u8 0, Value.int .u8 0, Value.int .u8 0, Value.int .u8 0, Value.int .u8 0, Value.int .u8 0, Value.int .u8 0, Value.int .u8 0, Value.int .u8 0, Value.int .u8 0, Value.int .u8 0, Value.int .u8 0, Value.int .u8 0, Value.int .u8 0, Value.int .u8 0] 25)) :=
      ⟨(Blk.new _ _ _).alloc _, Blk.new_at _ _ _ _ (by simp), ((Below.refl _ _).alloc (Nat.le_refl _) _).alloc (by simp) _⟩
    obtain ⟨y2, hw9⟩ : ∃ w9, w9 = ((y1.alloc (.cells #[Value.int .u8 0, Value.int .u8 0, Value.int .u8 0, Value.int .u8 0, Value.int .u8 0, Value.int .u8 0, Value.int .u8 0, Value.int .u8 0, Value.int .u8 0, Value.int .u8 0, Value.int .u8 0, Value.int .u8 0, Value.int .u8 0, Value.int .u8 0, Value.int .u8 0, Value.int .u8 0, Value.int .u8 0, Value.int .u8 0, Value.int .u8 0, Value.int .u8 0, Value.int .u8 0, Value.int .u8 0, Value.int .u8 0, Value.int .u8 0, Value.int .u8 0, Value.int .u8 0, Value.int .u8 0, Value.int .u8 0, Value.int .u8 0, Value.int .u8 0, Value.int .u8 0, Value.int .u8 0] 25)).alloc (.cells #[Value.int .u8 0, Value.int .u8 0, Value.int .u8 0, Value.int .u8 0, Value.int .u8 0, Value.int .u8 0, Value.int .u8 0, Value.int .u8 0, Value.int .u8 0, Value.int .u8 0, Value.int .u8 0, Value.int .u8 0, Value.int .u8 0, Value.int .u8 0, Value.int .u8 0, Value.int .u8 0, Value.int .u8 0, Value.int .u8 0, Value.int .u8 0, Value.int .u8 0, Value.int .u8 0, Value.int .u8 0, Value.int .u8 0, Value.int .u8 0, Value.int .u8 0, Value.int .u8 0, Value.int .u8 0, Value.int .u8 0, Value.int .u8 0, Value.int .u8 0, Value.int .u8 0, Value.int .u8 0] 25)).setRow y1.heap.size (encs .u8 X) := ⟨_, rfl⟩
    obtain ⟨y3, hwa⟩ : ∃ wa, wa = y2.setRow (y1.heap.size + 1) (encs .u8 Y) := ⟨_, rfl⟩
    have k3 : Blk y2 (y1.heap.size + 1) (encs .u8 z32s) 25 := by rw [hw9]; exact n3.farRow (by omega) _
    have b10 : Blk y3 y1.heap.size (encs .u8 X) 25 := by rw [hwa, hw9]; exact (n2.row (encs .u8 X)).farRow (by omega) _
    have b11 : Blk y3 (y1.heap.size + 1) (encs .u8 Y) 25 := by rw [hwa]; exact k3.row _
    have kb : Below y1.heap.size y1 y3 := by rw [hwa, hw9]; exact below_setRow (below_setRow hn (Nat.le_refl _) _) (by omega) _
    replace b8 := b8.below kb b8.lt
    replace b9 := b9.below kb b9.lt
    replace m0 := m0.below kb m0.lt
    replace hb := hb.trans (kb.mono hb.size)
    have H9 := Lib.hid hw9
    have HA := Lib.hid hwa
    clear kb hn hw9 hwa
    go_wp2_with (first | (refine wpList_store_row rfl 25 _ _ rfl _ _ rfl rfl 25 _ n2 (by rw [encs_size, HXL.out]; exact sizeKey0) (by rw [encs_size, encs_size, HXL.out]; rfl) (encs_one _ _) ?_; change wpList _ _ _ _ _ (((y1.alloc (.cells #[Value.int .u8 0, Value.int .u8 0, Value.int .u8 0, Value.int .u8 0, Value.int .u8 0, Value.int .u8 0, Value.int .u8 0, Value.int .u8 0, Value.int .u8 0, Value.int .u8 0, Value.int .u8 0, Value.int .u8 0, Value.int .u8 0, Value.int .u8 0, Value.int .u8 0, Value.int .u8 0, Value.int .u8 0, Value.int .u8 0, Value.int .u8 0, Value.int .u8 0, Value.int .u8 0, Value.int .u8 0, Value.int .u8 0, Value.int .u8 0, Value.int .u8 0, Value.int .u8 0, Value.int .u8 0, Value.int .u8 0, Value.int .u8 0, Value.int .u8 0, Value.int .u8 0, Value.int .u8 0] 25)).alloc (.cells #[Value.int .u8 0, Value.int .u8 0, Value.int .u8 0, Value.int .u8 0, Value.int .u8 0, Value.int .u8 0, Value.int .u8 0, Value.int .u8 0, Value.int .u8 0, Value.int .u8 0, Value.int .u8 0, Value.int .u8 0, Value.int .u8 0, Value.int .u8 0, Value.int .u8 0, Value.int .u8 0, Value.int .u8 0, Value.int .u8 0, Value.int .u8 0, Value.int .u8 0, Value.int .u8 0, Value.int .u8 0, Value.int .u8 0, Value.int .u8 0, Value.int .u8 0, Value.int .u8 0, Value.int .u8 0, Value.int .u8 0, Value.int .u8 0, Value.int .u8 0, Value.int .u8 0, Value.int .u8 0] 25)).setRow y1.heap.size (encs .u8 X)); rw [← H9.out]; clear n2) | (refine wpList_store_row rfl 25 _ _ rfl _ _ rfl rfl 25 _ k3 (by rw [encs_size, HYL.out]; exact sizeKey0) (by rw [encs_size, encs_size, HYL.out]; rfl) (encs_one _ _) ?_; rw [← HA.out]; clear k3) | (refine wpList_load_row rfl 25 _ rfl w.heap.size rfl 25 _ (0, 0) _ m0 Try.underlying25 rfl (by rw [encs_size, HK.out]; exact sizeKey0) ?_) | fail)
    clear H9 HA
    refine (step_key_any key y3 HK.out).mono ?_
    rintro e y4 ⟨rfl, hn⟩
    rw [HM2.out, HM1.out]
    replace b8 := b8.below hn b8.lt
    replace b9 := b9.below hn b9.lt
    replace m0 := m0.below hn m0.lt
    replace b10 := b10.below hn b10.lt
    replace b11 := b11.below hn b11.lt
    replace hb := hb.trans (hn.mono hb.size)
    clear hn
    obtain ⟨n2, n3, hn⟩ : Blk ((y4.alloc (.cells #[Value.int .u8 0, Value.int .u8 0, Value.int .u8 0, Value.int .u8 0, Value.int .u8 0, Value.int .u8 0, Value.int .u8 0, Value.int .u8 0, Value.int .u8 0, Value.int .u8 0, Value.int .u8 0, Value.int .u8 0, Value.int .u8 0, Value.int .u8 0, Value.int .u8 0, Value.int .u8 0, Value.int .u8 0, Value.int .u8 0, Value.int .u8 0, Value.int .u8 0, Value.int .u8 0, Value.int .u8 0, Value.int .u8 0, Value.int .u8 0, Value.int .u8 0, Value.int .u8 0, Value.int .u8 0, Value.int .u8 0, Value.int .u8 0, Value.int .u8 0, Value.int .u8 0, Value.int .u8 0] 25)).alloc (.cells #[Value.int .u8 0, Value.int .u8 0, Value.int .u8 0, Value.int .u8 0, Value.int .u8 0, Value.int .u8 0, Value.int .u8 0, Value.int .u8 0, Value.int .u8 0, Value.int .u8 0, Value.int .u8 0, Value.int .u8 0, Value.int .u8 0, Value.int .u8 0, Value.int .u8 0, Value.int .u8 0, Value.int .u8 0, Value.int .u8 0, Value.int .u8 0, Value.int .u8 0, Value.int .u8 0, Value.int .u8 0, Value.int .u8 0, Value.int .u8 0, Value.int .u8 0, Value.int .u8 0, Value.int .u8 0, Value.int .u8 0, Value.int .u8 0, Value.int .u8 0, Value.int .u8 0, Value.int .u8 0] 25)) y4.heap.size (encs .u8 z32s) 25 ∧ Blk ((y4.alloc (.cells #[Value.int .u8 0, Value.int .u8 0, Value.int .u8 0, Value.int .u8 0, Value.int .u8 0, Value.int .u8 0, Value.int .u8 0, Value.int .u8 0, Value.int .u8 0, Value.int .u8 0, Value.int .u8 0, Value.int .u8 0, Value.int .u8 0, Value.int .u8 0, Value.int .u8 0, Value.int .u8 0, Value.int .u8 0, Value.int .u8 0, Value.int .u8 0, Value.int .u8 0, Value.int .u8 0, Value.int .u8 0, Value.int .u8 0, Value.int .u8 0, Value.int .u8 0, Value.int .u8 0, Value.int .u8 0, Value.int .u8 0, Value.int .u8 0, Value.int .u8 0, Value.int .u8 0, Value.int .u8 0] 25)).alloc (.cells #[Value.int .u8 0, Value.int .u8 0, Value.int .u8 0, Value.int .u8 0, Value.int .u8 0, Value.int .u8 0, Value.int .u8 0, Value.int .u8 0, Value.int .u8 0, Value.int .u8 0, Value.int .u8 0, Value.int .u8 0, Value.int .u8 0, Value.int .u8 0, Value.int .u8 0, Value.int .u8 0, Value.int .u8 0, Value.int .u8 0, Value.int .u8 0, Value.int .u8 0, Value.int .u8 0, Value.int .u8 0, Value.int .u8 0, Value.int .u8 0, Value.int .u8 0, Value.int .u8 0, Value.int .u8 0, Value.int .u8 0, Value.int .u8 0, Value.int .u8 0, Value.int .u8 0, Value.int .u8 0] 25)) (y4.heap.size + 1) (encs .u8 z32s) 25 ∧ Below y4.heap.size y4 ((y4.alloc (.cells #[Value.int .u8 0, Value.int .u8 0, Value.int .u8 0, Value.int .u8 0, Value.int .u8 0, Value.int .u8 0, Value.int .u8 0, Value.int .u8 0, Value.int .u8 0, Value.int .u8 0, Value.int .u8 0, Value.int .u8 0, Value.int .u8 0, Value.int .u8 0, Value.int .u8 0, Value.int .u8 0, Value.int .u8 0, Value.int .u8 0, Value.int .u8 0, Value.int .u8 0, Value.int .u8 0, Value.int .u8 0, Value.int .u8 0, Value.int .u8 0, Value.int .u8 0, Value.int .u8 0, Value.int .u8 0, Value.int .u8 0, Value.int .u8 0, Value.int .u8 0, Value.int .u8 0, Value.int .u8 0] 25)).alloc (.cells #[Value.int .u8 0, Value.int .u8 0, Value.int .u8 0, Value.int .u8 0, Value.int .u8 0, Value.int .u8 0, Value.int .u8 0, Value.int .u8 0, Value.int .u8 0, Value.int .u8 0, Value.int .u8 0, Value.int .u8 0, Value.int .u8 0, Value.int .u8 0, Value.int .u8 0, Value.int .u8 0, Value.int .u8 0, Value.int .u8 0, Value.int .u8 0, Value.int .u8 0, Value.int .u8 0, Value.int .u8 0, Value.int .u8 0, Value.int .u8 0, Value.int .u8 0, Value.int .u8 0, Value.int .u8 0, Value.int .u8 0, Value.int .u8 0, Value.int .u8 0, Value.int .u8 0, Value.int .u8 0] 25)) :=
      ⟨(Blk.new _ _ _).alloc _, Blk.new_at _ _ _ _ (by simp), ((Below.refl _ _).alloc (Nat.le_refl _) _).alloc (by simp) _⟩
    obtain ⟨y5, hw9⟩ : ∃ w9, w9 = ((y4.alloc (.cells #[Value.int .u8 0, Value.int .u8 0, Value.int .u8 0, Value.int .u8 0, Value.int .u8 0, Value.int .u8 0, Value.int .u8 0, Value.int .u8 0, Value.int .u8 0, Value.int .u8 0, Value.int .u8 0, Value.int .u8 0, Value.int .u8 0, Value.int .u8 0, Value.int .u8 0, Value.int .u8 0, Value.int .u8 0, Value.int .u8 0, Value.int .u8 0, Value.int .u8 0, Value.int .u8 0, Value.int .u8 0, Value.int .u8 0, Value.int .u8 0, Value.int .u8 0, Value.int .u8 0, Value.int .u8 0, Value.int .u8 0, Value.int .u8 0, Value.int .u8 0, Value.int .u8 0, Value.int .u8 0] 25)).alloc (.cells #[Value.int .u8 0, Value.int .u8 0, Value.int .u8 0, Value.int .u8 0, Value.int .u8 0, Value.int .u8 0, Value.int .u8 0, Value.int .u8 0, Value.int .u8 0, Value.int .u8 0, Value.int .u8 0, Value.int .u8 0, Value.int .u8 0, Value.int .u8 0, Value.int .u8 0, Value.int .u8 0, Value.int .u8 0, Value.int .u8 0, Value.int .u8 0, Value.int .u8 0, Value.int .u8 0, Value.int .u8 0, Value.int .u8 0, Value.int .u8 0, Value.int .u8 0, Value.int .u8 0, Value.int .u8 0, Value.int .u8 0, Value.int .u8 0, Value.int .u8 0, Value.int .u8 0, Value.int .u8 0] 25)).setRow y4.heap.size (encs .u8 S2) := ⟨_, rfl⟩
    obtain ⟨y6, hwa⟩ : ∃ wa, wa = y5.setRow (y4.heap.size + 1) (encs .u8 S1) := ⟨_, rfl⟩
    have k3 : Blk y5 (y4.heap.size + 1) (encs .u8 z32s) 25 := by rw [hw9]; exact n3.farRow (by omega) _
    have b12 : Blk y6 y4.heap.size (encs .u8 S2) 25 := by rw [hwa, hw9]; exact (n2.row (encs .u8 S2)).farRow (by omega) _
    have b13 : Blk y6 (y4.heap.size + 1) (encs .u8 S1) 25 := by rw [hwa]; exact k3.row _
    have kb : Below y4.heap.size y4 y6 := by rw [hwa, hw9]; exact below_setRow (below_setRow hn (Nat.le_refl _) _) (by omega) _
    replace b8 := b8.below kb b8.lt
    replace b9 := b9.below kb b9.lt
    replace m0 := m0.below kb m0.lt
    replace b10 := b10.below kb b10.lt
    replace b11 := b11.below kb b11.lt
    replace hb := hb.trans (kb.mono hb.size)
    have H9 := Lib.hid hw9
    have HA := Lib.hid hwa
    clear kb hn hw9 hwa
    go_wp2_with (first | (refine wpList_store_row rfl 25 _ _ rfl _ _ rfl rfl 25 _ n2 (by rw [encs_size, HN2.out]; exact sizeKey0) (by rw [encs_size, encs_size, HN2.out]; rfl) (encs_one _ _) ?_; change wpList _ _ _ _ _ (((y4.alloc (.cells #[Value.int .u8 0, Value.int .u8 0, Value.int .u8 0, Value.int .u8 0, Value.int .u8 0, Value.int .u8 0, Value.int .u8 0, Value.int .u8 0, Value.int .u8 0, Value.int .u8 0, Value.int .u8 0, Value.int .u8 0, Value.int .u8 0, Value.int .u8 0, Value.int .u8 0, Value.int .u8 0, Value.int .u8 0, Value.int .u8 0, Value.int .u8 0, Value.int .u8 0, Value.int .u8 0, Value.int .u8 0, Value.int .u8 0, Value.int .u8 0, Value.int .u8 0, Value.int .u8 0, Value.int .u8 0, Value.int .u8 0, Value.int .u8 0, Value.int .u8 0, Value.int .u8 0, Value.int .u8 0] 25)).alloc (.cells #[Value.int .u8 0, Value.int .u8 0, Value.int .u8 0, Value.int .u8 0, Value.int .u8 0, Value.int .u8 0, Value.int .u8 0, Value.int .u8 0, Value.int .u8 0, Value.int .u8 0, Value.int .u8 0, Value.int .u8 0, Value.int .u8 0, Value.int .u8 0, Value.int .u8 0, Value.int .u8 0, Value.int .u8 0, Value.int .u8 0, Value.int .u8 0, Value.int .u8 0, Value.int .u8 0, Value.int .u8 0, Value.int .u8 0, Value.int .u8 0, Value.int .u8 0, Value.int .u8 0, Value.int .u8 0, Value.int .u8 0, Value.int .u8 0, Value.int .u8 0, Value.int .u8 0, Value.int .u8 0] 25)).setRow y4.heap.size (encs .u8 S2)); rw [← H9.out]; clear n2) | (refine wpList_store_row rfl 25 _ _ rfl _ _ rfl rfl 25 _ k3 (by rw [encs_size, HN1.out]; exact sizeKey0) (by rw [encs_size, encs_size, HN1.out]; rfl) (encs_one _ _) ?_; rw [← HA.out]; clear k3) | (refine wpList_load_row rfl 25 _ rfl w.heap.size rfl 25 _ (0, 0) _ m0 Try.underlying25 rfl (by rw [encs_size, HK.out]; exact sizeKey0) ?_) | fail)
    clear H9 HA
    refine (rstep_any key y6 HK.out).mono ?_
    rintro e y7 ⟨rfl, hn⟩
    rw [HM2.out, HM1.out]
    replace b8 := b8.below hn b8.lt
    replace b9 := b9.below hn b9.lt
    replace m0 := m0.below hn m0.lt
    replace b10 := b10.below hn b10.lt
    replace b11 := b11.below hn b11.lt
    replace b12 := b12.below hn b12.lt
    replace b13 := b13.below hn b13.lt
    replace hb := hb.trans (hn.mono hb.size)
    clear hn
    obtain ⟨n2, n3, hn⟩ : Blk ((y7.alloc (.cells #[Value.int .u8 0, Value.int .u8 0, Value.int .u8 0, Value.int .u8 0, Value.int .u8 0, Value.int .u8 0, Value.int .u8 0, Value.int .u8 0, Value.int .u8 0, Value.int .u8 0, Value.int .u8 0, Value.int .u8 0, Value.int .u8 0, Value.int .u8 0, Value.int .u8 0, Value.int .u8 0, Value.int .u8 0, Value.int .u8 0, Value.int .u8 0, Value.int .u8 0, Value.int .u8 0, Value.int .u8 0, Value.int .u8 0, Value.int .u8 0, Value.int .u8 0, Value.int .u8 0, Value.int .u8 0, Value.int .u8 0, Value.int .u8 0, Value.int .u8 0, Value.int .u8 0, Value.int .u8 0] 25)).alloc (.cells #[Value.int .u8 0, Value.int .u8 0, Value.int .u8 0, Value.int .u8 0, Value.int .u8 0, Value.int .u8 0, Value.int .u8 0, Value.int .u8 0, Value.int .u8 0, Value.int .u8 0, Value.int .u8 0, Value.int .u8 0, Value.int .u8 0, Value.int .u8 0, Value.int .u8 0, Value.int .u8 0, Value.int .u8 0, Value.int .u8 0, Value.int .u8 0, Value.int .u8 0, Value.int .u8 0, Value.int .u8 0, Value.int .u8 0, Value.int .u8 0, Value.int .u8 0, Value.int .u8 0, Value.int .u8 0, Value.int .u8 0, Value.int .u8 0, Value.int .u8 0, Value.int .u8 0, Value.int .u8 0] 25)) y7.heap.size (encs .u8 z32s) 25 ∧ Blk ((y7.alloc (.cells #[Value.int .u8 0, Value.int .u8 0, Value.int .u8 0, Value.int .u8 0, Value.int .u8 0, Value.int .u8 0, Value.int .u8 0, Value.int .u8 0, Value.int .u8 0, Value.int .u8 0, Value.int .u8 0, Value.int .u8 0, Value.int .u8 0, Value.int .u8 0, Value.int .u8 0, Value.int .u8 0, Value.int .u8 0, Value.int .u8 0, Value.int .u8 0, Value.int .u8 0, Value.int .u8 0, Value.int .u8 0, Value.int .u8 0, Value.int .u8 0, Value.int .u8 0, Value.int .u8 0, Value.int .u8 0, Value.int .u8 0, Value.int .u8 0, Value.int .u8 0, Value.int .u8 0, Value.int .u8 0] 25)).alloc (.cells #[Value.int .u8 0, Value.int .u8 0, Value.int .u8 0, Value.int .u8 0, Value.int .u8 0, Value.int .u8 0, Value.int .u8 0, Value.int .u8 0, Value.int .u8 0, Value.int .u8 0, Value.int .u8 0, Value.int .u8 0, Value.int .u8 0, Value.int .u8 0, Value.int .u8 0, Value.int .u8 0, Value.int .u8 0, Value.int .u8 0, Value.int .u8 0, Value.int .u8 0, Value.int .u8 0, Value.int .u8 0, Value.int .u8 0, Value.int .u8 0, Value.int .u8 0, Value.int .u8 0, Value.int .u8 0, Value.int .u8 0, Value.int .u8 0, Value.int .u8 0, Value.int .u8 0, Value.int .u8 0] 25)) (y7.heap.size + 1) (encs .u8 z32s) 25 ∧ Below y7.heap.size y7 ((y7.alloc (.cells #[Value.int .u8 0, Value.int .u8 0, Value.int .u8 0, Value.int .u8 0, Value.int .u8 0, Value.int .u8 0, Value.int .u8 0, Value.int .u8 0, Value.int .u8 0, Value.int .u8 0, Value.int .u8 0, Value.int .u8 0, Value.int .u8 0, Value.int .u8 0, Value.int .u8 0, Value.int .u8 0, Value.int .u8 0, Value.int .u8 0, Value.int .u8 0, Value.int .u8 0, Value.int .u8 0, Value.int .u8 0, Value.int .u8 0, Value.int .u8 0, Value.int .u8 0, Value.int .u8 0, Value.int .u8 0, Value.int .u8 0, Value.int .u8 0, Value.int .u8 0, Value.int .u8 0, Value.int .u8 0] 25)).alloc (.cells #[Value.int .u8 0, Value.int .u8 0, Value.int .u8 0, Value.int .u8 0, Value.int .u8 0, Value.int .u8 0, Value.int .u8 0, Value.int .u8 0, Value.int .u8 0, Value.int .u8 0, Value.int .u8 0, Value.int .u8 0, Value.int .u8 0, Value.int .u8 0, Value.int .u8 0, Value.int .u8 0, Value.int .u8 0, Value.int .u8 0, Value.int .u8 0, Value.int .u8 0, Value.int .u8 0, Value.int .u8 0, Value.int .u8 0, Value.int .u8 0, Value.int .u8 0, Value.int .u8 0, Value.int .u8 0, Value.int .u8 0, Value.int .u8 0, Value.int .u8 0, Value.int .u8 0, Value.int .u8 0] 25)) :=
      ⟨(Blk.new _ _ _).alloc _, Blk.new_at _ _ _ _ (by simp), ((Below.refl _ _).alloc (Nat.le_refl _) _).alloc (by simp) _⟩
    obtain ⟨y8, hw9⟩ : ∃ w9, w9 = ((y7.alloc (.cells #[Value.int .u8 0, Value.int .u8 0, Value.int .u8 0, Value.int .u8 0, Value.int .u8 0, Value.int .u8 0, Value.int .u8 0, Value.int .u8 0, Value.int .u8 0, Value.int .u8 0, Value.int .u8 0, Value.int .u8 0, Value.int .u8 0, Value.int .u8 0, Value.int .u8 0, Value.int .u8 0, Value.int .u8 0, Value.int .u8 0, Value.int .u8 0, Value.int .u8 0, Value.int .u8 0, Value.int .u8 0, Value.int .u8 0, Value.int .u8 0, Value.int .u8 0, Value.int .u8 0, Value.int .u8 0, Value.int .u8 0, Value.int .u8 0, Value.int .u8 0, Value.int .u8 0, Value.int .u8 0] 25)).alloc (.cells #[Value.int .u8 0, Value.int .u8 0, Value.int .u8 0, Value.int .u8 0, Value.int .u8 0, Value.int .u8 0, Value.int .u8 0, Value.int .u8 0, Value.int .u8 0, Value.int .u8 0, Value.int .u8 0, Value.int .u8 0, Value.int .u8 0, Value.int .u8 0, Value.int .u8 0, Value.int .u8 0, Value.int .u8 0, Value.int .u8 0, Value.int .u8 0, Value.int .u8 0, Value.int .u8 0, Value.int .u8 0, Value.int .u8 0, Value.int .u8 0, Value.int .u8 0, Value.int .u8 0, Value.int .u8 0, Value.int .u8 0, Value.int .u8 0, Value.int .u8 0, Value.int .u8 0, Value.int .u8 0] 25)).setRow y7.heap.size (encs .u8 S2) := ⟨_, rfl⟩
    obtain ⟨y9, hwa⟩ : ∃ wa, wa = y8.setRow (y7.heap.size + 1) (encs .u8 S1) := ⟨_, rfl⟩
    have k3 : Blk y8 (y7.heap.size + 1) (encs .u8 z32s) 25 := by rw [hw9]; exact n3.farRow (by omega) _
    have b14 : Blk y9 y7.heap.size (encs .u8 S2) 25 := by rw [hwa, hw9]; exact (n2.row (encs .u8 S2)).farRow (by omega) _
    have b15 : Blk y9 (y7.heap.size + 1) (encs .u8 S1) 25 := by rw [hwa]; exact k3.row _
    have kb : Below y7.heap.size y7 y9 := by rw [hwa, hw9]; exact below_setRow (below_setRow hn (Nat.le_refl _) _) (by omega) _
    replace b8 := b8.below kb b8.lt
    replace b9 := b9.below kb b9.lt
    replace m0 := m0.below kb m0.lt
    replace b10 := b10.below kb b10.lt
    replace b11 := b11.below kb b11.lt
    replace b12 := b12.below kb b12.lt
    replace b13 := b13.below kb b13.lt
    replace hb := hb.trans (kb.mono hb.size)
    have H9 := Lib.hid hw9
    have HA := Lib.hid hwa
    clear kb hn hw9 hwa
    go_wp2_with (first | (refine wpList_store_row rfl 25 _ _ rfl _ _ rfl rfl 25 _ n2 (by rw [encs_size, HN2.out]; exact sizeKey0) (by rw [encs_size, encs_size, HN2.out]; rfl) (encs_one _ _) ?_; change wpList _ _ _ _ _ (((y7.alloc (.cells #[Value.int .u8 0, Value.int .u8 0, Value.int .u8 0, Value.int .u8 0, Value.int .u8 0, Value.int .u8 0, Value.int .u8 0, Value.int .u8 0, Value.int .u8 0, Value.int .u8 0, Value.int .u8 0, Value.int .u8 0, Value.int .u8 0, Value.int .u8 0, Value.int .u8 0, Value.int .u8 0, Value.int .u8 0, Value.int .u8 0, Value.int .u8 0, Value.int .u8 0, Value.int .u8 0, Value.int .u8 0, Value.int .u8 0, Value.int .u8 0, Value.int .u8 0, Value.int .u8 0, Value.int .u8 0, Value.int .u8 0, Value.int .u8 0, Value.int .u8 0, Value.int .u8 0, Value.int .u8 0] 25)).alloc (.cells #[Value.int .u8 0, Value.int .u8 0, Value.int .u8 0, Value.int .u8 0, Value.int .u8 0, Value.int .u8 0, Value.int .u8 0, Value.int .u8 0, Value.int .u8 0, Value.int .u8 0, Value.int .u8 0, Value.int .u8 0, Value.int .u8 0, Value.int .u8 0, Value.int .u8 0, Value.int .u8 0, Value.int .u8 0, Value.int .u8 0, Value.int .u8 0, Value.int .u8 0, Value.int .u8 0, Value.int .u8 0, Value.int .u8 0, Value.int .u8 0, Value.int .u8 0, Value.int .u8 0, Value.int .u8 0, Value.int .u8 0, Value.int .u8 0, Value.int .u8 0, Value.int .u8 0, Value.int .u8 0] 25)).setRow y7.heap.size (encs .u8 S2)); rw [← H9.out]; clear n2) | (refine wpList_store_row rfl 25 _ _ rfl _ _ rfl rfl 25 _ k3 (by rw [encs_size, HN1.out]; exact sizeKey0) (by rw [encs_size, encs_size, HN1.out]; rfl) (encs_one _ _) ?_; rw [← HA.out]; clear k3) | (refine wpList_load_row rfl 25 _ rfl w.heap.size rfl 25 _ (0, 0) _ m0 Try.underlying25 rfl (by rw [encs_size, HK.out]; exact sizeKey0) ?_) | fail)
    clear H9 HA
    have HB9 := Lib.hid hb
    have B0 := Lib.hid m0
    have B8 := Lib.hid b8
    have B9 := Lib.hid b9
    have B10 := Lib.hid b10
    have B11 := Lib.hid b11
    have B12 := Lib.hid b12
    have B13 := Lib.hid b13
    have B14 := Lib.hid b14
    have B15 := Lib.hid b15
    clear m0 hb b8 b9 b10 b11 b12 b13 b14 b15
    refine mix_start (fun w' => Below y9.heap.size y9 w') [0, 1, 2, 3, 4, 5, 6, 7, 8, 9, 10, 11, 14, 12, 13, 15, 16, 17, 18, 19, 20, 21, 22, 23, 24, 25, 26, 27] [12, 13] [0, 1, 4, 5, 9, 14, 18, 19, 23, 24] [] (by kernel_rfl) (by kernel_rfl) (fun d _ _ _ _ h => by cases d <;> exact h) (Below.refl _ _).drew ?_
    have hS : Below y9.heap.size y9 y9.drew := (Below.refl _ _).drew
    generalize y9.drew = z0 at *
    refine mix_load_row rfl rfl rfl rfl 25 _ rfl g8 rfl _ 25 (0, 0) _ (fun w' hS => B8.out.below hS B8.out.lt) Try.underlying25 rfl (by rw [encs_size, HXL.out]; exact sizeKey0) ?_
    dsimp only [Act.put]
    refine mix_load_row rfl rfl rfl rfl 25 _ rfl y1.heap.size rfl _ 25 (0, 0) _ (fun w' hS => B10.out.below hS B10.out.lt) Try.underlying25 rfl (by rw [encs_size, HXL.out]; exact sizeKey0) ?_
    dsimp only [Act.put]
    repeat (refine mix_pure rfl rfl (fun K hK => ?_); go_simp; refine hK _ ?_; clear hK K)
    refine mix_load_row rfl rfl rfl rfl 25 _ rfl g9 rfl _ 25 (0, 0) _ (fun w' hS => B9.out.below hS B9.out.lt) Try.underlying25 rfl (by rw [encs_size, HYL.out]; exact sizeKey0) ?_
    dsimp only [Act.put]
    refine mix_load_row rfl rfl rfl rfl 25 _ rfl (y1.heap.size + 1) rfl _ 25 (0, 0) _ (fun w' hS => B11.out.below hS B11.out.lt) Try.underlying25 rfl (by rw [encs_size, HYL.out]; exact sizeKey0) ?_
    dsimp only [Act.put]
    repeat (refine mix_pure rfl rfl (fun K hK => ?_); go_simp; refine hK _ ?_; clear hK K)
    refine mix_load_row rfl rfl rfl rfl 25 _ rfl w.heap.size rfl _ 25 (0, 0) _ (fun w' hS => B0.out.below hS B0.out.lt) Try.underlying25 rfl (by rw [encs_size, HK.out]; exact sizeKey0) ?_
    dsimp only [Act.put]
    repeat (refine mix_pure rfl rfl (fun K hK => ?_); go_simp; refine hK _ ?_; clear hK K)
    refine mix_load_row rfl rfl rfl rfl 25 _ rfl y1.heap.size rfl _ 25 (0, 0) _ (fun w' hS => B10.out.below hS B10.out.lt) Try.underlying25 rfl (by rw [encs_size, HXL.out]; exact sizeKey0) ?_
    dsimp only [Act.put]
    repeat (refine mix_pure rfl rfl (fun K hK => ?_); go_simp; refine hK _ ?_; clear hK K)
    refine mix_eff rfl rfl (fun K hK => ?_)
    go_simp
    refine (copied_any ls PA pc z0 ((HP.out.below HB9.out).below hS) (by have := HL1.out; omega) (by have := HFL.out; omega)).mono ?_
    rintro e z1 ⟨Aa, ca, rfl, hpa, hn⟩
    replace hS := hS.trans (hn.mono hS.size)
    refine hK _ _ (fun _ _ => hS) ?_
    clear hK K hn
    repeat (refine mix_pure rfl rfl (fun K hK => ?_); go_simp; refine hK _ ?_; clear hK K)
    refine mix_eff rfl rfl (fun K hK => ?_)
    go_simp
    refine (derive_any key label ls Aa ca z1 HK.out hpa (by have := HLAB.out; omega) (by have := HL1.out; omega) (by have := HFL.out; omega)).mono ?_
    rintro e z2 ⟨rfl, hn⟩
    rw [HX.out]
    replace hS := hS.trans (hn.mono hS.size)
    refine hK _ _ (fun _ _ => hS) ?_
    clear hK K hn hpa
    repeat (refine mix_pure rfl rfl (fun K hK => ?_); go_simp; refine hK _ ?_; clear hK K)
    refine mix_load_row rfl rfl rfl rfl 25 _ rfl y4.heap.size rfl _ 25 (0, 0) _ (fun w' hS => B12.out.below hS B12.out.lt) Try.underlying25 rfl (by rw [encs_size, HN2.out]; exact sizeKey0) ?_
    dsimp only [Act.put]
    refine mix_load_row rfl rfl rfl rfl 25 _ rfl y7.heap.size rfl _ 25 (0, 0) _ (fun w' hS => B14.out.below hS B14.out.lt) Try.underlying25 rfl (by rw [encs_size, HN2.out]; exact sizeKey0) ?_
    dsimp only [Act.put]
    repeat (refine mix_pure rfl rfl (fun K hK => ?_); go_simp; refine hK _ ?_; clear hK K)
    refine mix_load_row rfl rfl rfl rfl 25 _ rfl (y4.heap.size + 1) rfl _ 25 (0, 0) _ (fun w' hS => B13.out.below hS B13.out.lt) Try.underlying25 rfl (by rw [encs_size, HN1.out]; exact sizeKey0) ?_
    dsimp only [Act.put]
    refine mix_load_row rfl rfl rfl rfl 25 _ rfl (y7.heap.size + 1) rfl _ 25 (0, 0) _ (fun w' hS => B15.out.below hS B15.out.lt) Try.underlying25 rfl (by rw [encs_size, HN1.out]; exact sizeKey0) ?_
    dsimp only [Act.put]
    repeat (refine mix_pure rfl rfl (fun K hK => ?_); go_simp; refine hK _ ?_; clear hK K)
    refine mix_nil ?_
    go_wp2_with fail
    go_ret
    exact ⟨rfl, HB9.out.trans (hS.mono HB9.out.size)⟩
end Go.Proofs.Ytgcdjickkbiglaa
