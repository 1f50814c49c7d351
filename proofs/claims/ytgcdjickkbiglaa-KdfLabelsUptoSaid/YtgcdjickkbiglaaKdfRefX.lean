/- The reference's Expand (printed by genrefx.py). -/
import Derived.Test.YtgcdjickkbiglaaKdfRefH
import Derived.Test.YtgcdjickkbiglaaKdfExpand
import Derived.Test.YtgcdjickkbiglaaMix3
import Derived.Test.YtgcdjickkbiglaaStepSt
namespace Go.Proofs.Ytgcdjickkbiglaa
open Go.RowKit
set_option linter.unusedVariables false
set_option linter.unusedSimpArgs false
/-- A key's block that the call made: the pointer that leads to it. -/
def KeyP (w : World) (B : Nat) (u : Value) (l : List (BitVec 8)) : Prop := ∃ g, u = .pointer (some ⟨g, 0, none⟩) ∧ B ≤ g ∧ Blk w g (encs .u8 l) 25
theorem KeyP.below {w w' : World} {B : Nat} {u : Value} {l : List (BitVec 8)} (h : KeyP w B u l) (hb : Below w.heap.size w w') : KeyP w' B u l := by
  obtain ⟨g, rfl, h1, h2⟩ := h
  exact ⟨g, rfl, h1, h2.below hb h2.lt⟩
set_option maxRecDepth 100000 in
set_option maxHeartbeats 8000000 in
theorem rexpand_any (key info : List (BitVec 8)) (iv : Value) (n : Nat) (w : World) (hk : key.length = 32) (hi : Arg w iv info) (hil : info.length ≤ 1048576) (hn : n ≤ 8160) :
    Calls Try.prog 18 #[.agg (encs .u8 key), iv, .int .i64 n] w (RetOwn w 5 .u8 (expand key info n)) := by
  have HI := Lib.hid hi
  obtain ⟨IA, ic, rfl, -, -⟩ := hi
  have HIL := Lib.hid hil
  have HK := Lib.hid hk
  clear hil hk
  have m0 := Blk.new w (encs .u8 key) 25
  have hb : Below w.heap.size w (w.alloc (.cells (encs .u8 key) 25)) := (Below.refl _ _).alloc (Nat.le_refl _) _
  have HKL := Lib.hid (exOut_length key info)
  have HLL := Lib.hid (exLast_length key info)
  go_enter Try.func18, Try.ntmps18
  go_wp2_with fail
  go_loopw [7, 8, 9] (fun vo vl vi wr => ∃ k : Nat, k ≤ 255 ∧ vi = .int .i64 ((k : Int) + 1) ∧ OwnB wr w.heap.size vo (exOut key info k) ∧ OwnB wr w.heap.size vl (exLast key info k) ∧ Blk wr w.heap.size (encs .u8 key) 25 ∧ Below w.heap.size w wr ∧ 32 * k < n + 32) (fun _ _ vi _ => 256 - (intOf vi).toNat)
  case atStart => exact ⟨0, by omega, rfl, World.ownsRow_nil _ _ _ _, World.ownsRow_nil _ _ _ _, m0, hb, by omega⟩
  case round =>
    clear m0 hb
    obtain ⟨k, hk255, rfl, hown, hlast, m0, hb, hkn⟩ := hrel
    have HOWN := Lib.hid hown
    have HLAST := Lib.hid hlast.arg
    have HB := Lib.hid (And.intro m0 hb)
    have HLL0 := Lib.hid (show (exLast key info k).length ≤ 32 by cases k with | zero => simp [exLast] | succ j => rw [exLast_length]; exact Nat.le_refl _)
    have hm0 := m0.lt
    obtain ⟨oA, oc, rfl, hoc, hR0⟩ := id hown.arg
    have HR0 := Lib.hid hR0
    rw [HKL.out] at hoc ⊢
    clear hown hlast hR0
    by_cases hlt : 32 * k < n
    · have j1 : (32 : Int) * (k : Int) < (n : Int) := by omega
      have hcv : IntKind.u8.wrap ((k : Int) + 1) = wb (BitVec.ofNat 8 (k + 1)) := by rw [← wrap_nat isU8 (k + 1)]; rfl
      obtain ⟨ib, hib⟩ : ∃ ib, ib = BitVec.ofNat 8 (k + 1) := ⟨_, rfl⟩
      rw [← hib] at hcv
      have HX : Hid (hmac key (exLast key info k ++ info ++ [ib]) = exLast key info (k + 1)) := by show _ = _; rw [hib]; rfl
      clear hib
      have HL := Lib.hid (exLast_length key info k)
      clear m0 hb
      go_wp2_with fail
      refine M3.mix_plan (fun _ => True) (.step 0 (.step 1 (.step 2 (.step 4 (.step 5 (.fork3 3 6 9 (.fork 6 9 (.fork 7 9 (.fork 8 9 (.step 9 (.step 10 (.done))) (.step 8 (.step 10 (.done)))) (.step 7 (.step 8 (.step 10 (.done))))) (.step 6 (.step 7 (.step 8 (.step 10 (.done)))))) (.fork 3 9 (.fork 7 9 (.fork 8 9 (.step 9 (.step 10 (.done))) (.step 8 (.step 10 (.done)))) (.step 7 (.step 8 (.step 10 (.done))))) (.step 3 (.step 7 (.step 8 (.step 10 (.done)))))) (.fork 3 6 (.step 6 (.step 7 (.step 8 (.step 10 (.done))))) (.step 3 (.step 7 (.step 8 (.step 10 (.done)))))))))))) [3, 6, 7, 8, 9, 10] [] [] (by kernel_rfl) (by kernel_rfl) (fun d _ _ _ _ h => by cases d <;> exact h) trivial ?_
      have hb2 : Below wr.heap.size wr wr.drew := (Below.refl _ _).drew
      generalize wr.drew = x0 at *
      repeat (refine M3.mix_pure rfl rfl (fun K hK => ?_); go_simp; refine hK _ ?_; clear hK K)
      apply share4 (A := fun u3 u6 u7 u9 wx => Below wr.heap.size wr wx ∧ KeyP wx wr.heap.size u9 z32s)
      · intro hS3_6_7_8_9
        apply share4 (A := fun u3 u6 u7 u9 wx => Below wr.heap.size wr wx ∧ Arg wx u7 (exLast key info k ++ info ++ [ib]) ∧ KeyP wx wr.heap.size u9 z32s)
        · intro hS3_6_7_9
          apply share3 (A := fun u3 u6 u9 wx => Below wr.heap.size wr wx ∧ Arg wx u3 (exLast key info k ++ info) ∧ Arg wx u6 [ib] ∧ KeyP wx wr.heap.size u9 z32s)
          · intro hS3_6_9
            apply share2 (A := fun u3 u6 wx => Below wr.heap.size wr wx ∧ Arg wx u3 (exLast key info k ++ info) ∧ Arg wx u6 [ib])
            · intro hS3_6
              apply share2 (A := fun u3 u9 wx => Below wr.heap.size wr wx ∧ Arg wx u3 (exLast key info k ++ info) ∧ KeyP wx wr.heap.size u9 z32s)
              · intro hS3_9
                apply share2 (A := fun u6 u9 wx => Below wr.heap.size wr wx ∧ Arg wx u6 [ib] ∧ KeyP wx wr.heap.size u9 z32s)
                · intro hS6_9
                  refine M3.mix_fork3 rfl rfl rfl (fun K hK => ?_) (fun K hK => ?_) (fun K hK => ?_)
                  · go_simp
                    refine (both_v (HLAST.out.below hb2) ((HI.out.below HB.out.2).below hb2) (by have := HLL0.out; have := HIL.out; omega)).mono ?_
                    rintro e x1 ⟨u3, rfl, h3, hn⟩
                    have a3 : Arg x1 u3 (exLast key info k ++ info) := OwnB.arg h3
                    clear h3
                    replace hb2 := hb2.trans (hn.mono hb2.size)
                    refine hK _ _ (fun _ _ => trivial) ?_
                    clear hK K hn
                    refine M3.mix_fork rfl rfl (fun K hK => ?_) (fun K hK => ?_)
                    · go_simp
                      have hn : Below x1.heap.size x1 (x1.alloc (.cells #[.int .u8 (wb ib)] 5)) := (Below.refl _ _).alloc (Nat.le_refl _) _
                      have a6 : Arg (x1.alloc (.cells #[.int .u8 (wb ib)] 5)) (.slice (some ⟨x1.heap.size, 0, none⟩) 1 1) [ib] := arg_of (Blk.new x1 (encs .u8 [ib]) 5).rd rfl (Nat.le_refl _)
                      generalize x1.alloc (.cells #[.int .u8 (wb ib)] 5) = x2 at *
                      generalize Value.slice (some ⟨x1.heap.size, 0, none⟩) 1 1 = u6 at *
                      replace hb2 := hb2.trans (hn.mono hb2.size)
                      replace a3 := a3.below hn
                      refine hK _ _ (fun _ _ => trivial) ?_
                      clear hK K hn
                      exact hS3_6 u3 u6 x2 ⟨hb2, a3, a6⟩
                    · go_simp
                      have hn : Below x1.heap.size x1 (x1.alloc (.cells #[Value.int .u8 0, Value.int .u8 0, Value.int .u8 0, Value.int .u8 0, Value.int .u8 0, Value.int .u8 0, Value.int .u8 0, Value.int .u8 0, Value.int .u8 0, Value.int .u8 0, Value.int .u8 0, Value.int .u8 0, Value.int .u8 0, Value.int .u8 0, Value.int .u8 0, Value.int .u8 0, Value.int .u8 0, Value.int .u8 0, Value.int .u8 0, Value.int .u8 0, Value.int .u8 0, Value.int .u8 0, Value.int .u8 0, Value.int .u8 0, Value.int .u8 0, Value.int .u8 0, Value.int .u8 0, Value.int .u8 0, Value.int .u8 0, Value.int .u8 0, Value.int .u8 0, Value.int .u8 0] 25)) := (Below.refl _ _).alloc (Nat.le_refl _) _
                      have m9 : KeyP (x1.alloc (.cells #[Value.int .u8 0, Value.int .u8 0, Value.int .u8 0, Value.int .u8 0, Value.int .u8 0, Value.int .u8 0, Value.int .u8 0, Value.int .u8 0, Value.int .u8 0, Value.int .u8 0, Value.int .u8 0, Value.int .u8 0, Value.int .u8 0, Value.int .u8 0, Value.int .u8 0, Value.int .u8 0, Value.int .u8 0, Value.int .u8 0, Value.int .u8 0, Value.int .u8 0, Value.int .u8 0, Value.int .u8 0, Value.int .u8 0, Value.int .u8 0, Value.int .u8 0, Value.int .u8 0, Value.int .u8 0, Value.int .u8 0, Value.int .u8 0, Value.int .u8 0, Value.int .u8 0, Value.int .u8 0] 25)) wr.heap.size (.pointer (some ⟨x1.heap.size, 0, none⟩)) z32s := ⟨_, rfl, hb2.size, Blk.new _ _ _⟩
                      generalize x1.alloc (.cells #[Value.int .u8 0, Value.int .u8 0, Value.int .u8 0, Value.int .u8 0, Value.int .u8 0, Value.int .u8 0, Value.int .u8 0, Value.int .u8 0, Value.int .u8 0, Value.int .u8 0, Value.int .u8 0, Value.int .u8 0, Value.int .u8 0, Value.int .u8 0, Value.int .u8 0, Value.int .u8 0, Value.int .u8 0, Value.int .u8 0, Value.int .u8 0, Value.int .u8 0, Value.int .u8 0, Value.int .u8 0, Value.int .u8 0, Value.int .u8 0, Value.int .u8 0, Value.int .u8 0, Value.int .u8 0, Value.int .u8 0, Value.int .u8 0, Value.int .u8 0, Value.int .u8 0, Value.int .u8 0] 25) = x3 at *
                      generalize Value.pointer (some ⟨x1.heap.size, 0, none⟩) = u9 at *
                      replace hb2 := hb2.trans (hn.mono hb2.size)
                      replace a3 := a3.below hn
                      refine hK _ _ (fun _ _ => trivial) ?_
                      clear hK K hn
                      exact hS3_9 u3 u9 x3 ⟨hb2, a3, m9⟩
                  · go_simp
                    have hn : Below x0.heap.size x0 (x0.alloc (.cells #[.int .u8 (wb ib)] 5)) := (Below.refl _ _).alloc (Nat.le_refl _) _
                    have a6 : Arg (x0.alloc (.cells #[.int .u8 (wb ib)] 5)) (.slice (some ⟨x0.heap.size, 0, none⟩) 1 1) [ib] := arg_of (Blk.new x0 (encs .u8 [ib]) 5).rd rfl (Nat.le_refl _)
                    generalize x0.alloc (.cells #[.int .u8 (wb ib)] 5) = x4 at *
                    generalize Value.slice (some ⟨x0.heap.size, 0, none⟩) 1 1 = u6 at *
                    replace hb2 := hb2.trans (hn.mono hb2.size)
                    refine hK _ _ (fun _ _ => trivial) ?_
                    clear hK K hn
                    refine M3.mix_fork rfl rfl (fun K hK => ?_) (fun K hK => ?_)
                    · go_simp
                      refine (both_v (HLAST.out.below hb2) ((HI.out.below HB.out.2).below hb2) (by have := HLL0.out; have := HIL.out; omega)).mono ?_
                      rintro e x5 ⟨u3, rfl, h3, hn⟩
                      have a3 : Arg x5 u3 (exLast key info k ++ info) := OwnB.arg h3
                      clear h3
                      replace hb2 := hb2.trans (hn.mono hb2.size)
                      replace a6 := a6.below hn
                      refine hK _ _ (fun _ _ => trivial) ?_
                      clear hK K hn
                      exact hS3_6 u3 u6 x5 ⟨hb2, a3, a6⟩
                    · go_simp
                      have hn : Below x4.heap.size x4 (x4.alloc (.cells #[Value.int .u8 0, Value.int .u8 0, Value.int .u8 0, Value.int .u8 0, Value.int .u8 0, Value.int .u8 0, Value.int .u8 0, Value.int .u8 0, Value.int .u8 0, Value.int .u8 0, Value.int .u8 0, Value.int .u8 0, Value.int .u8 0, Value.int .u8 0, Value.int .u8 0, Value.int .u8 0, Value.int .u8 0, Value.int .u8 0, Value.int .u8 0, Value.int .u8 0, Value.int .u8 0, Value.int .u8 0, Value.int .u8 0, Value.int .u8 0, Value.int .u8 0, Value.int .u8 0, Value.int .u8 0, Value.int .u8 0, Value.int .u8 0, Value.int .u8 0, Value.int .u8 0, Value.int .u8 0] 25)) := (Below.refl _ _).alloc (Nat.le_refl _) _
                      have m9 : KeyP (x4.alloc (.cells #[Value.int .u8 0, Value.int .u8 0, Value.int .u8 0, Value.int .u8 0, Value.int .u8 0, Value.int .u8 0, Value.int .u8 0, Value.int .u8 0, Value.int .u8 0, Value.int .u8 0, Value.int .u8 0, Value.int .u8 0, Value.int .u8 0, Value.int .u8 0, Value.int .u8 0, Value.int .u8 0, Value.int .u8 0, Value.int .u8 0, Value.int .u8 0, Value.int .u8 0, Value.int .u8 0, Value.int .u8 0, Value.int .u8 0, Value.int .u8 0, Value.int .u8 0, Value.int .u8 0, Value.int .u8 0, Value.int .u8 0, Value.int .u8 0, Value.int .u8 0, Value.int .u8 0, Value.int .u8 0] 25)) wr.heap.size (.pointer (some ⟨x4.heap.size, 0, none⟩)) z32s := ⟨_, rfl, hb2.size, Blk.new _ _ _⟩
                      generalize x4.alloc (.cells #[Value.int .u8 0, Value.int .u8 0, Value.int .u8 0, Value.int .u8 0, Value.int .u8 0, Value.int .u8 0, Value.int .u8 0, Value.int .u8 0, Value.int .u8 0, Value.int .u8 0, Value.int .u8 0, Value.int .u8 0, Value.int .u8 0, Value.int .u8 0, Value.int .u8 0, Value.int .u8 0, Value.int .u8 0, Value.int .u8 0, Value.int .u8 0, Value.int .u8 0, Value.int .u8 0, Value.int .u8 0, Value.int .u8 0, Value.int .u8 0, Value.int .u8 0, Value.int .u8 0, Value.int .u8 0, Value.int .u8 0, Value.int .u8 0, Value.int .u8 0, Value.int .u8 0, Value.int .u8 0] 25) = x6 at *
                      generalize Value.pointer (some ⟨x4.heap.size, 0, none⟩) = u9 at *
                      replace hb2 := hb2.trans (hn.mono hb2.size)
                      replace a6 := a6.below hn
                      refine hK _ _ (fun _ _ => trivial) ?_
                      clear hK K hn
                      exact hS6_9 u6 u9 x6 ⟨hb2, a6, m9⟩
                  · go_simp
                    have hn : Below x0.heap.size x0 (x0.alloc (.cells #[Value.int .u8 0, Value.int .u8 0, Value.int .u8 0, Value.int .u8 0, Value.int .u8 0, Value.int .u8 0, Value.int .u8 0, Value.int .u8 0, Value.int .u8 0, Value.int .u8 0, Value.int .u8 0, Value.int .u8 0, Value.int .u8 0, Value.int .u8 0, Value.int .u8 0, Value.int .u8 0, Value.int .u8 0, Value.int .u8 0, Value.int .u8 0, Value.int .u8 0, Value.int .u8 0, Value.int .u8 0, Value.int .u8 0, Value.int .u8 0, Value.int .u8 0, Value.int .u8 0, Value.int .u8 0, Value.int .u8 0, Value.int .u8 0, Value.int .u8 0, Value.int .u8 0, Value.int .u8 0] 25)) := (Below.refl _ _).alloc (Nat.le_refl _) _
                    have m9 : KeyP (x0.alloc (.cells #[Value.int .u8 0, Value.int .u8 0, Value.int .u8 0, Value.int .u8 0, Value.int .u8 0, Value.int .u8 0, Value.int .u8 0, Value.int .u8 0, Value.int .u8 0, Value.int .u8 0, Value.int .u8 0, Value.int .u8 0, Value.int .u8 0, Value.int .u8 0, Value.int .u8 0, Value.int .u8 0, Value.int .u8 0, Value.int .u8 0, Value.int .u8 0, Value.int .u8 0, Value.int .u8 0, Value.int .u8 0, Value.int .u8 0, Value.int .u8 0, Value.int .u8 0, Value.int .u8 0, Value.int .u8 0, Value.int .u8 0, Value.int .u8 0, Value.int .u8 0, Value.int .u8 0, Value.int .u8 0] 25)) wr.heap.size (.pointer (some ⟨x0.heap.size, 0, none⟩)) z32s := ⟨_, rfl, hb2.size, Blk.new _ _ _⟩
                    generalize x0.alloc (.cells #[Value.int .u8 0, Value.int .u8 0, Value.int .u8 0, Value.int .u8 0, Value.int .u8 0, Value.int .u8 0, Value.int .u8 0, Value.int .u8 0, Value.int .u8 0, Value.int .u8 0, Value.int .u8 0, Value.int .u8 0, Value.int .u8 0, Value.int .u8 0, Value.int .u8 0, Value.int .u8 0, Value.int .u8 0, Value.int .u8 0, Value.int .u8 0, Value.int .u8 0, Value.int .u8 0, Value.int .u8 0, Value.int .u8 0, Value.int .u8 0, Value.int .u8 0, Value.int .u8 0, Value.int .u8 0, Value.int .u8 0, Value.int .u8 0, Value.int .u8 0, Value.int .u8 0, Value.int .u8 0] 25) = x7 at *
                    generalize Value.pointer (some ⟨x0.heap.size, 0, none⟩) = u9 at *
                    replace hb2 := hb2.trans (hn.mono hb2.size)
                    refine hK _ _ (fun _ _ => trivial) ?_
                    clear hK K hn
                    refine M3.mix_fork rfl rfl (fun K hK => ?_) (fun K hK => ?_)
                    · go_simp
                      refine (both_v (HLAST.out.below hb2) ((HI.out.below HB.out.2).below hb2) (by have := HLL0.out; have := HIL.out; omega)).mono ?_
                      rintro e x8 ⟨u3, rfl, h3, hn⟩
                      have a3 : Arg x8 u3 (exLast key info k ++ info) := OwnB.arg h3
                      clear h3
                      replace hb2 := hb2.trans (hn.mono hb2.size)
                      replace m9 := m9.below hn
                      refine hK _ _ (fun _ _ => trivial) ?_
                      clear hK K hn
                      exact hS3_9 u3 u9 x8 ⟨hb2, a3, m9⟩
                    · go_simp
                      have hn : Below x7.heap.size x7 (x7.alloc (.cells #[.int .u8 (wb ib)] 5)) := (Below.refl _ _).alloc (Nat.le_refl _) _
                      have a6 : Arg (x7.alloc (.cells #[.int .u8 (wb ib)] 5)) (.slice (some ⟨x7.heap.size, 0, none⟩) 1 1) [ib] := arg_of (Blk.new x7 (encs .u8 [ib]) 5).rd rfl (Nat.le_refl _)
                      generalize x7.alloc (.cells #[.int .u8 (wb ib)] 5) = x9 at *
                      generalize Value.slice (some ⟨x7.heap.size, 0, none⟩) 1 1 = u6 at *
                      replace hb2 := hb2.trans (hn.mono hb2.size)
                      replace m9 := m9.below hn
                      refine hK _ _ (fun _ _ => trivial) ?_
                      clear hK K hn
                      exact hS6_9 u6 u9 x9 ⟨hb2, a6, m9⟩
                · intro u6 u9 wx hA
                  obtain ⟨hb2, a6, m9⟩ := hA
                  refine M3.mix_eff rfl rfl (fun K hK => ?_)
                  go_simp
                  refine (both_v (HLAST.out.below hb2) ((HI.out.below HB.out.2).below hb2) (by have := HLL0.out; have := HIL.out; omega)).mono ?_
                  rintro e x10 ⟨u3, rfl, h3, hn⟩
                  have a3 : Arg x10 u3 (exLast key info k ++ info) := OwnB.arg h3
                  clear h3
                  replace hb2 := hb2.trans (hn.mono hb2.size)
                  replace a6 := a6.below hn
                  replace m9 := m9.below hn
                  refine hK _ _ (fun _ _ => trivial) ?_
                  clear hK K hn
                  exact hS3_6_9 u3 u6 u9 x10 ⟨hb2, a3, a6, m9⟩
              · intro u3 u9 wx hA
                obtain ⟨hb2, a3, m9⟩ := hA
                refine M3.mix_eff rfl rfl (fun K hK => ?_)
                go_simp
                have hn : Below wx.heap.size wx (wx.alloc (.cells #[.int .u8 (wb ib)] 5)) := (Below.refl _ _).alloc (Nat.le_refl _) _
                have a6 : Arg (wx.alloc (.cells #[.int .u8 (wb ib)] 5)) (.slice (some ⟨wx.heap.size, 0, none⟩) 1 1) [ib] := arg_of (Blk.new wx (encs .u8 [ib]) 5).rd rfl (Nat.le_refl _)
                generalize wx.alloc (.cells #[.int .u8 (wb ib)] 5) = x11 at *
                generalize Value.slice (some ⟨wx.heap.size, 0, none⟩) 1 1 = u6 at *
                replace hb2 := hb2.trans (hn.mono hb2.size)
                replace a3 := a3.below hn
                replace m9 := m9.below hn
                refine hK _ _ (fun _ _ => trivial) ?_
                clear hK K hn
                exact hS3_6_9 u3 u6 u9 x11 ⟨hb2, a3, a6, m9⟩
            · intro u3 u6 wx hA
              obtain ⟨hb2, a3, a6⟩ := hA
              refine M3.mix_fork rfl rfl (fun K hK => ?_) (fun K hK => ?_)
              · go_simp
                refine (both_v a3 a6 (by have := HLL0.out; have := HIL.out; simp; omega)).mono ?_
                rintro e x12 ⟨u7, rfl, h7, hn⟩
                have a7 : Arg x12 u7 (exLast key info k ++ info ++ [ib]) := OwnB.arg h7
                clear h7
                replace hb2 := hb2.trans (hn.mono hb2.size)
                refine hK _ _ (fun _ _ => trivial) ?_
                clear hK K hn
                clear a3 a6
                refine M3.mix_fork rfl rfl (fun K hK => ?_) (fun K hK => ?_)
                · go_simp
                  refine (rhmac_any key _ _ u7 x12 ((HB.out.1.below hb2 hm0).arg HK.out (Nat.le_refl _)) a7 (by rw [HK.out]; omega) (by have := HLL0.out; have := HIL.out; simp; omega)).mono ?_
                  rintro e x13 ⟨rfl, hn⟩
                  rw [HX.out]
                  replace hb2 := hb2.trans (hn.mono hb2.size)
                  refine hK _ _ (fun _ _ => trivial) ?_
                  clear hK K hn
                  clear a7
                  refine M3.mix_eff rfl rfl (fun K hK => ?_)
                  go_simp
                  have hn : Below x13.heap.size x13 (x13.alloc (.cells #[Value.int .u8 0, Value.int .u8 0, Value.int .u8 0, Value.int .u8 0, Value.int .u8 0, Value.int .u8 0, Value.int .u8 0, Value.int .u8 0, Value.int .u8 0, Value.int .u8 0, Value.int .u8 0, Value.int .u8 0, Value.int .u8 0, Value.int .u8 0, Value.int .u8 0, Value.int .u8 0, Value.int .u8 0, Value.int .u8 0, Value.int .u8 0, Value.int .u8 0, Value.int .u8 0, Value.int .u8 0, Value.int .u8 0, Value.int .u8 0, Value.int .u8 0, Value.int .u8 0, Value.int .u8 0, Value.int .u8 0, Value.int .u8 0, Value.int .u8 0, Value.int .u8 0, Value.int .u8 0] 25)) := (Below.refl _ _).alloc (Nat.le_refl _) _
                  have m9 : KeyP (x13.alloc (.cells #[Value.int .u8 0, Value.int .u8 0, Value.int .u8 0, Value.int .u8 0, Value.int .u8 0, Value.int .u8 0, Value.int .u8 0, Value.int .u8 0, Value.int .u8 0, Value.int .u8 0, Value.int .u8 0, Value.int .u8 0, Value.int .u8 0, Value.int .u8 0, Value.int .u8 0, Value.int .u8 0, Value.int .u8 0, Value.int .u8 0, Value.int .u8 0, Value.int .u8 0, Value.int .u8 0, Value.int .u8 0, Value.int .u8 0, Value.int .u8 0, Value.int .u8 0, Value.int .u8 0, Value.int .u8 0, Value.int .u8 0, Value.int .u8 0, Value.int .u8 0, Value.int .u8 0, Value.int .u8 0] 25)) wr.heap.size (.pointer (some ⟨x13.heap.size, 0, none⟩)) z32s := ⟨_, rfl, hb2.size, Blk.new _ _ _⟩
                  generalize x13.alloc (.cells #[Value.int .u8 0, Value.int .u8 0, Value.int .u8 0, Value.int .u8 0, Value.int .u8 0, Value.int .u8 0, Value.int .u8 0, Value.int .u8 0, Value.int .u8 0, Value.int .u8 0, Value.int .u8 0, Value.int .u8 0, Value.int .u8 0, Value.int .u8 0, Value.int .u8 0, Value.int .u8 0, Value.int .u8 0, Value.int .u8 0, Value.int .u8 0, Value.int .u8 0, Value.int .u8 0, Value.int .u8 0, Value.int .u8 0, Value.int .u8 0, Value.int .u8 0, Value.int .u8 0, Value.int .u8 0, Value.int .u8 0, Value.int .u8 0, Value.int .u8 0, Value.int .u8 0, Value.int .u8 0] 25) = x14 at *
                  generalize Value.pointer (some ⟨x13.heap.size, 0, none⟩) = u9 at *
                  replace hb2 := hb2.trans (hn.mono hb2.size)
                  refine hK _ _ (fun _ _ => trivial) ?_
                  clear hK K hn
                  exact hS3_6_7_8_9 u3 u6 u7 u9 x14 ⟨hb2, m9⟩
                · go_simp
                  have hn : Below x12.heap.size x12 (x12.alloc (.cells #[Value.int .u8 0, Value.int .u8 0, Value.int .u8 0, Value.int .u8 0, Value.int .u8 0, Value.int .u8 0, Value.int .u8 0, Value.int .u8 0, Value.int .u8 0, Value.int .u8 0, Value.int .u8 0, Value.int .u8 0, Value.int .u8 0, Value.int .u8 0, Value.int .u8 0, Value.int .u8 0, Value.int .u8 0, Value.int .u8 0, Value.int .u8 0, Value.int .u8 0, Value.int .u8 0, Value.int .u8 0, Value.int .u8 0, Value.int .u8 0, Value.int .u8 0, Value.int .u8 0, Value.int .u8 0, Value.int .u8 0, Value.int .u8 0, Value.int .u8 0, Value.int .u8 0, Value.int .u8 0] 25)) := (Below.refl _ _).alloc (Nat.le_refl _) _
                  have m9 : KeyP (x12.alloc (.cells #[Value.int .u8 0, Value.int .u8 0, Value.int .u8 0, Value.int .u8 0, Value.int .u8 0, Value.int .u8 0, Value.int .u8 0, Value.int .u8 0, Value.int .u8 0, Value.int .u8 0, Value.int .u8 0, Value.int .u8 0, Value.int .u8 0, Value.int .u8 0, Value.int .u8 0, Value.int .u8 0, Value.int .u8 0, Value.int .u8 0, Value.int .u8 0, Value.int .u8 0, Value.int .u8 0, Value.int .u8 0, Value.int .u8 0, Value.int .u8 0, Value.int .u8 0, Value.int .u8 0, Value.int .u8 0, Value.int .u8 0, Value.int .u8 0, Value.int .u8 0, Value.int .u8 0, Value.int .u8 0] 25)) wr.heap.size (.pointer (some ⟨x12.heap.size, 0, none⟩)) z32s := ⟨_, rfl, hb2.size, Blk.new _ _ _⟩
                  generalize x12.alloc (.cells #[Value.int .u8 0, Value.int .u8 0, Value.int .u8 0, Value.int .u8 0, Value.int .u8 0, Value.int .u8 0, Value.int .u8 0, Value.int .u8 0, Value.int .u8 0, Value.int .u8 0, Value.int .u8 0, Value.int .u8 0, Value.int .u8 0, Value.int .u8 0, Value.int .u8 0, Value.int .u8 0, Value.int .u8 0, Value.int .u8 0, Value.int .u8 0, Value.int .u8 0, Value.int .u8 0, Value.int .u8 0, Value.int .u8 0, Value.int .u8 0, Value.int .u8 0, Value.int .u8 0, Value.int .u8 0, Value.int .u8 0, Value.int .u8 0, Value.int .u8 0, Value.int .u8 0, Value.int .u8 0] 25) = x15 at *
                  generalize Value.pointer (some ⟨x12.heap.size, 0, none⟩) = u9 at *
                  replace hb2 := hb2.trans (hn.mono hb2.size)
                  replace a7 := a7.below hn
                  refine hK _ _ (fun _ _ => trivial) ?_
                  clear hK K hn
                  exact hS3_6_7_9 u3 u6 u7 u9 x15 ⟨hb2, a7, m9⟩
              · go_simp
                have hn : Below wx.heap.size wx (wx.alloc (.cells #[Value.int .u8 0, Value.int .u8 0, Value.int .u8 0, Value.int .u8 0, Value.int .u8 0, Value.int .u8 0, Value.int .u8 0, Value.int .u8 0, Value.int .u8 0, Value.int .u8 0, Value.int .u8 0, Value.int .u8 0, Value.int .u8 0, Value.int .u8 0, Value.int .u8 0, Value.int .u8 0, Value.int .u8 0, Value.int .u8 0, Value.int .u8 0, Value.int .u8 0, Value.int .u8 0, Value.int .u8 0, Value.int .u8 0, Value.int .u8 0, Value.int .u8 0, Value.int .u8 0, Value.int .u8 0, Value.int .u8 0, Value.int .u8 0, Value.int .u8 0, Value.int .u8 0, Value.int .u8 0] 25)) := (Below.refl _ _).alloc (Nat.le_refl _) _
                have m9 : KeyP (wx.alloc (.cells #[Value.int .u8 0, Value.int .u8 0, Value.int .u8 0, Value.int .u8 0, Value.int .u8 0, Value.int .u8 0, Value.int .u8 0, Value.int .u8 0, Value.int .u8 0, Value.int .u8 0, Value.int .u8 0, Value.int .u8 0, Value.int .u8 0, Value.int .u8 0, Value.int .u8 0, Value.int .u8 0, Value.int .u8 0, Value.int .u8 0, Value.int .u8 0, Value.int .u8 0, Value.int .u8 0, Value.int .u8 0, Value.int .u8 0, Value.int .u8 0, Value.int .u8 0, Value.int .u8 0, Value.int .u8 0, Value.int .u8 0, Value.int .u8 0, Value.int .u8 0, Value.int .u8 0, Value.int .u8 0] 25)) wr.heap.size (.pointer (some ⟨wx.heap.size, 0, none⟩)) z32s := ⟨_, rfl, hb2.size, Blk.new _ _ _⟩
                generalize wx.alloc (.cells #[Value.int .u8 0, Value.int .u8 0, Value.int .u8 0, Value.int .u8 0, Value.int .u8 0, Value.int .u8 0, Value.int .u8 0, Value.int .u8 0, Value.int .u8 0, Value.int .u8 0, Value.int .u8 0, Value.int .u8 0, Value.int .u8 0, Value.int .u8 0, Value.int .u8 0, Value.int .u8 0, Value.int .u8 0, Value.int .u8 0, Value.int .u8 0, Value.int .u8 0, Value.int .u8 0, Value.int .u8 0, Value.int .u8 0, Value.int .u8 0, Value.int .u8 0, Value.int .u8 0, Value.int .u8 0, Value.int .u8 0, Value.int .u8 0, Value.int .u8 0, Value.int .u8 0, Value.int .u8 0] 25) = x16 at *
                generalize Value.pointer (some ⟨wx.heap.size, 0, none⟩) = u9 at *
                replace hb2 := hb2.trans (hn.mono hb2.size)
                replace a3 := a3.below hn
                replace a6 := a6.below hn
                refine hK _ _ (fun _ _ => trivial) ?_
                clear hK K hn
                exact hS3_6_9 u3 u6 u9 x16 ⟨hb2, a3, a6, m9⟩
          · intro u3 u6 u9 wx hA
            obtain ⟨hb2, a3, a6, m9⟩ := hA
            refine M3.mix_eff rfl rfl (fun K hK => ?_)
            go_simp
            refine (both_v a3 a6 (by have := HLL0.out; have := HIL.out; simp; omega)).mono ?_
            rintro e x17 ⟨u7, rfl, h7, hn⟩
            have a7 : Arg x17 u7 (exLast key info k ++ info ++ [ib]) := OwnB.arg h7
            clear h7
            replace hb2 := hb2.trans (hn.mono hb2.size)
            replace m9 := m9.below hn
            refine hK _ _ (fun _ _ => trivial) ?_
            clear hK K hn
            clear a3 a6
            exact hS3_6_7_9 u3 u6 u7 u9 x17 ⟨hb2, a7, m9⟩
        · intro u3 u6 u7 u9 wx hA
          obtain ⟨hb2, a7, m9⟩ := hA
          refine M3.mix_eff rfl rfl (fun K hK => ?_)
          go_simp
          refine (rhmac_any key _ _ u7 wx ((HB.out.1.below hb2 hm0).arg HK.out (Nat.le_refl _)) a7 (by rw [HK.out]; omega) (by have := HLL0.out; have := HIL.out; simp; omega)).mono ?_
          rintro e x18 ⟨rfl, hn⟩
          rw [HX.out]
          replace hb2 := hb2.trans (hn.mono hb2.size)
          replace m9 := m9.below hn
          refine hK _ _ (fun _ _ => trivial) ?_
          clear hK K hn
          clear a7
          exact hS3_6_7_8_9 u3 u6 u7 u9 x18 ⟨hb2, m9⟩
      · intro u3 u6 u7 u9 wx hA
        obtain ⟨hb2, m9⟩ := hA
        refine M3.mix_eff rfl rfl (fun K hK => ?_)
        obtain ⟨g9, rfl, hg9, mb9⟩ := m9
        refine step_store_rowS rfl 25 _ _ rfl _ _ rfl rfl 25 _ mb9 (by rw [encs_size, HL.out]; exact sizeKey0) (by rw [encs_size, encs_size, HL.out]; rfl) (encs_one _ _) ?_
        replace mb9 := mb9.row (encs .u8 (exLast key info (k + 1)))
        replace hb2 := below_setRow hb2 hg9 (encs .u8 (exLast key info (k + 1)))
        generalize wx.setRow g9 (encs .u8 (exLast key info (k + 1))) = x19 at *
        dsimp only [Act.put]
        refine hK _ _ (fun _ _ => trivial) ?_
        clear hK K
        try clear m9
        refine M3.mix_nil ?_
        have HS1 := Lib.hid (both_v (mb9.arg HL.out (Nat.le_refl _)) (Arg.nil x19) (by rw [HL.out]; simp))
        rw [List.append_nil] at HS1
        have hb3 := HB.out.2.trans (hb2.mono HB.out.2.size)
        have HB3 := Lib.hid (And.intro (HB.out.1.below hb2 hm0) (And.intro hb3 (HOWN.out.below hb2)))
        clear hb2 hb3 mb9
        go_wp2_with fail
        refine HS1.out.mono ?_
        rintro e y1 ⟨v8, rfl, h8, hn⟩
        replace h8 : OwnB y1 _ v8 (exLast key info (k + 1)) := h8
        have hb3 := HB3.out.2.1
        have k0 := HB3.out.1.below hn HB3.out.1.lt
        have ho := HB3.out.2.2.below hn
        have hs3 := hb3.size
        replace h8 := h8.base hs3
        replace hb3 := hb3.trans (hn.mono hs3)
        clear hn HS1 HB3 hs3
        rw [HKL.out] at ho
        have HQ := Lib.hid (both_v ho.arg h8.arg (by rw [HKL.out, HL.out]; omega))
        have HO := Lib.hid (And.intro k0 (And.intro h8 hb3))
        clear k0 h8 hb3 ho
        go_wp2_with fail
        refine HQ.out.mono ?_
        rintro e y2 ⟨v9, rfl, h9, hn⟩
        replace h9 : OwnB y2 _ v9 (exOut key info (k + 1)) := h9
        have hs3 := HO.out.2.2.size
        have hb3 := HO.out.2.2.trans (hn.mono hs3)
        have k0 := HO.out.1.below hn HO.out.1.lt
        have h8 := HO.out.2.1.below hn
        clear hn HQ HO
        go_wp2_with fail
        exact ⟨⟨k + 1, by omega, by go_num, h9.base hs3, h8, k0, hb3, by omega⟩, by simp [intOf]; omega⟩
    · have j1 : ¬ (32 : Int) * (k : Int) < (n : Int) := by omega
      have hexp : Hid (expand key info n = (exOut key info k).take n) := by show _ = _; unfold expand; rw [show (n + 31) / 32 = k by omega]
      have hsl := fun wx => run_slice_to (P := Try.prog) bytesT oA (32 * k) oc (n : Int) .i64 (by omega) (by omega) wx
      rw [cutA_zero, Int.toNat_natCast] at hsl
      have hsl2 : ∀ wx, (Instr.slice 22 (.slice oA (32 * k) oc) none (some (.int .i64 (n : Int))) none).run Try.prog wx = .ok (.slice oA n oc) wx := hsl
      have ha : Arg wr (.slice oA n oc) (expand key info n) := arg_of (by rw [hexp.out]; exact rd_take HR0.out n) (expand_length _ _ _) (by omega)
      have HQ := Lib.hid (both_v ha (Arg.nil wr) (by rw [expand_length]; simp; omega))
      rw [List.append_nil] at HQ
      clear ha hsl
      go_wp2_with fail
      refine HQ.out.mono ?_
      rintro e w2 ⟨v2, rfl, h2, hn2⟩
      have h3 : OwnB w2 _ v2 _ := h2
      go_wp2_with fail
      go_ret
      exact ⟨_, rfl, h3.base HB.out.2.size, HB.out.2.trans (hn2.mono HB.out.2.size)⟩
end Go.Proofs.Ytgcdjickkbiglaa
