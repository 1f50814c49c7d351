/- Parts that come to the same bytes have the same code (printed by genparts.py). -/
import Derived.Test.YtgcdjickkbiglaaKdfV
import Derived.Test.YtgcdjickkbiglaaKdfWakes
import Derived.Test.YtgcdjickkbiglaaShr
namespace Go.Proofs.Ytgcdjickkbiglaa
open Go.RowKit
set_option linter.unusedVariables false
set_option linter.unusedSimpArgs false
attribute [local go_sem] max_imax
theorem rd_drop {w : World} {k : IntKind} {n : Nat} {A : Option Addr} {b : List (BitVec n)} (h : Rd w k A b) (s cap : Nat) (hc : b.length ≤ cap) : Rd w k (cutA A s cap 1) (b.drop s) := by
  have := rd_cut h s (b.length - s) cap hc
  rwa [List.take_of_length_le (by rw [List.length_drop]; exact Nat.le_refl _)] at this
set_option maxRecDepth 100000 in
set_option maxHeartbeats 8000000 in
theorem parts_walk (key text : List (BitVec 8)) (n : Int) (KA TA : Option Addr) (kc tc : Nat) (w : World) (hKR : Rd w .u8 KA key) (hkc : key.length ≤ kc) (hTR : Rd w .u8 TA text) (htc : text.length ≤ tc) (htc2 : tc ≤ 140737488351232) (hkc2 : kc ≤ 140737488351232) (hn0 : -9223372036854775808 ≤ n) (hn1 : n ≤ 9223372036854775807) :
    Calls Try.prog 3 #[.slice KA key.length kc, .slice TA text.length tc, .int .i64 n] w fun e w' => e = .returned (.bool true) ∧ Below w.heap.size w w' := by
  have HKR := Lib.hid hKR
  have HTR := Lib.hid hTR
  have HKC := Lib.hid hkc
  have HTC := Lib.hid htc
  have HTC2 := Lib.hid htc2
  clear hKR hTR hkc hkc2
  by_cases i1 : (4096 : Int) < (text.length : Int)
  · go_enter Try.func3, Try.ntmps3
    go_wp2_with fail
    refine (wakes_any w).mono ?_
    rintro e w1 ⟨rfl, hb⟩
    go_wp2_with fail
    go_ret
    exact ⟨rfl, hb⟩
  by_cases i2 : (4096 : Int) < (key.length : Int)
  · go_enter Try.func3, Try.ntmps3
    go_wp2_with fail
    refine (wakes_any w).mono ?_
    rintro e w1 ⟨rfl, hb⟩
    go_wp2_with fail
    go_ret
    exact ⟨rfl, hb⟩
  have HKL : Hid (key.length ≤ 4096) := by show _ ≤ _; omega
  have HTL : Hid (text.length ≤ 4096) := by show _ ≤ _; omega
  obtain ⟨q, hq⟩ : ∃ q : Nat, imax n 0 = (q : Int) := ⟨(imax n 0).toNat, by unfold imax; split <;> omega⟩
  have hqb : (q : Int) ≤ 9223372036854775807 := by rw [← hq]; unfold imax; split <;> omega
  have hmd : (q : Int).tmod ((text.length : Int) + 1) = ((q % (text.length + 1) : Nat) : Int) := by
    rw [Int.tmod_eq_emod_of_nonneg (Int.natCast_nonneg _)]
    simp
  have hKle : q % (text.length + 1) ≤ text.length := Nat.le_of_lt_succ (Nat.mod_lt q (Nat.succ_pos _))
  go_enter Try.func3, Try.ntmps3
  go_wp2_with fail
  refine (wakes_any w).mono ?_
  rintro e w1 ⟨rfl, hb⟩
  by_cases i3 : (0 : Int) < (text.length : Int)
  · generalize q % (text.length + 1) = kk at *
    have hs1 := fun wx => run_slice_to (P := Try.prog) bytesT TA text.length tc (kk : Int) .i64 (by omega) (by omega) wx
    rw [cutA_zero, Int.toNat_natCast] at hs1
    have hs2 := fun wx => run_slice_from (P := Try.prog) bytesT TA text.length tc (kk : Int) .i64 (by omega) (by omega) wx
    rw [Int.toNat_natCast] at hs2
    have HT : Hid (text.take kk ++ [] ++ text.drop kk = text) := by show _ = _; simp
    replace hb := hb.drew
    have aK : Arg w1.drew (.slice KA key.length kc) key := arg_mk (HKR.out.below hb) HKC.out
    have aT : RowArg w1.drew (.slice TA text.length tc) text := ⟨TA, tc, rfl, HTC.out, by have := HTL.out; omega, HTR.out.below hb⟩
    have aU : RowArg w1.drew (.slice TA kk tc) (text.take kk) := ⟨TA, tc, by rw [List.length_take, Nat.min_eq_left hKle], by rw [List.length_take]; have := HTC.out; omega, by rw [List.length_take]; have := HTL.out; omega, rd_take (HTR.out.below hb) kk⟩
    have aV : RowArg w1.drew (.slice (cutA TA kk tc 1) (text.length - kk) (tc - kk)) (text.drop kk) := ⟨cutA TA kk tc 1, tc - kk, by rw [List.length_drop], by rw [List.length_drop]; have := HTC.out; omega, by rw [List.length_drop]; have := HTL.out; omega, rd_drop (HTR.out.below hb) kk tc HTC.out⟩
    have heq1 := eq_key (hmac key text) (hmac key text) (hmac_length _ _) (hmac_length _ _) rfl
    have heq2 := eq_key (hmac key []) (hmac key []) (hmac_length _ _) (hmac_length _ _) rfl
    go_wp2_with fail
    clear hmd hqb hq htc htc2
    refine mix_plan (fun _ => True) (.step 0 (.step 1 (.step 2 (.step 3 (.step 4 (.step 5 (.step 6 (.step 9 (.step 10 (.fork 7 11 (.fork 8 11 (.step 11 (.step 12 (.step 13 (.step 14 (.step 15 (.step 17 (.fork 16 18 (.step 18 (.step 19 (.step 20 (.step 21 (.step 22 (.done)))))) (.step 16 (.step 19 (.step 20 (.step 21 (.step 22 (.done))))))))))))) (.step 8 (.step 12 (.step 13 (.step 14 (.step 15 (.step 17 (.fork 16 18 (.step 18 (.step 19 (.step 20 (.step 21 (.step 22 (.done)))))) (.step 16 (.step 19 (.step 20 (.step 21 (.step 22 (.done)))))))))))))) (.step 7 (.step 8 (.step 12 (.step 13 (.step 14 (.step 15 (.step 17 (.fork 16 18 (.step 18 (.step 19 (.step 20 (.step 21 (.step 22 (.done)))))) (.step 16 (.step 19 (.step 20 (.step 21 (.step 22 (.done)))))))))))))))))))))))) [7, 8, 11, 12, 16, 18, 19] [] [] (by kernel_rfl) (by kernel_rfl) (fun d _ _ _ _ h => by cases d <;> exact h) trivial ?_
    generalize w1.drew = x0 at *
    repeat (refine mix_pure rfl rfl (fun K hK => ?_); go_simp; refine hK _ ?_; clear hK K)
    apply share3 (A := fun u7 u11 u18 wx => Arg wx (.slice KA key.length kc) key ∧ Below w.heap.size w wx ∧ RowV wx u18 [.slice none 0 0])
    · intro hS7_8_11_12_16_18
      apply share2 (A := fun u7 u11 wx => Arg wx (.slice KA key.length kc) key ∧ Below w.heap.size w wx ∧ RowArg wx (.slice TA text.length tc) text ∧ RowV wx u11 [.slice TA text.length tc])
      · intro hS7_8_11
        apply share2 (A := fun u7 u11 wx => Arg wx (.slice KA key.length kc) key ∧ Below w.heap.size w wx ∧ RowArg wx (.slice TA kk tc) (text.take kk) ∧ RowArg wx (.slice TA text.length tc) text ∧ RowArg wx (.slice (cutA TA kk tc 1) (text.length - kk) (tc - kk)) (text.drop kk) ∧ RowV wx u7 [.slice TA kk tc, .slice none 0 0, .slice (cutA TA kk tc 1) (text.length - kk) (tc - kk)] ∧ RowV wx u11 [.slice TA text.length tc])
        · intro hS7_11
          refine mix_fork rfl rfl (fun K hK => ?_) (fun K hK => ?_)
          · go_simp
            have hn : Below x0.heap.size x0 (x0.alloc (.cells #[.slice TA kk tc, .slice none 0 0, .slice (cutA TA kk tc 1) (text.length - kk) (tc - kk)] 22)) := (Below.refl _ _).alloc (Nat.le_refl _) _
            have r7 : RowV (x0.alloc (.cells #[.slice TA kk tc, .slice none 0 0, .slice (cutA TA kk tc 1) (text.length - kk) (tc - kk)] 22)) (Value.slice (some ⟨x0.heap.size, 0, none⟩) 3 3) [.slice TA kk tc, .slice none 0 0, .slice (cutA TA kk tc 1) (text.length - kk) (tc - kk)] := RowV.new _ [.slice TA kk tc, .slice none 0 0, .slice (cutA TA kk tc 1) (text.length - kk) (tc - kk)] 3 rfl
            generalize x0.alloc (.cells #[.slice TA kk tc, .slice none 0 0, .slice (cutA TA kk tc 1) (text.length - kk) (tc - kk)] 22) = x1 at *
            generalize Value.slice (some ⟨x0.heap.size, 0, none⟩) 3 3 = u7 at *
            replace aK := aK.below hn
            replace hb := hb.trans (hn.mono hb.size)
            replace aU := aU.below hn
            replace aT := aT.below hn
            replace aV := aV.below hn
            refine hK _ _ (fun _ _ => trivial) ?_
            clear hK K hn
            refine mix_fork rfl rfl (fun K hK => ?_) (fun K hK => ?_)
            · go_simp
              refine (hmac3_r aK (by have := HKL.out; omega) r7 aU (RowArg.nil _) aV (by have := HTL.out; simp; omega)).mono ?_
              rintro e x2 ⟨rfl, hn⟩
              rw [HT.out]
              replace aK := aK.below hn
              replace hb := hb.trans (hn.mono hb.size)
              replace aT := aT.below hn
              refine hK _ _ (fun _ _ => trivial) ?_
              clear hK K hn
              clear aU aV r7
              refine mix_eff rfl rfl (fun K hK => ?_)
              go_simp
              have hn : Below x2.heap.size x2 (x2.alloc (.cells #[.slice TA text.length tc] 22)) := (Below.refl _ _).alloc (Nat.le_refl _) _
              have r11 : RowV (x2.alloc (.cells #[.slice TA text.length tc] 22)) (Value.slice (some ⟨x2.heap.size, 0, none⟩) 1 1) [.slice TA text.length tc] := RowV.new _ [.slice TA text.length tc] 1 rfl
              generalize x2.alloc (.cells #[.slice TA text.length tc] 22) = x3 at *
              generalize Value.slice (some ⟨x2.heap.size, 0, none⟩) 1 1 = u11 at *
              replace aK := aK.below hn
              replace hb := hb.trans (hn.mono hb.size)
              replace aT := aT.below hn
              refine hK _ _ (fun _ _ => trivial) ?_
              clear hK K hn
              exact hS7_8_11 u7 u11 x3 ⟨aK, hb, aT, r11⟩
            · go_simp
              have hn : Below x1.heap.size x1 (x1.alloc (.cells #[.slice TA text.length tc] 22)) := (Below.refl _ _).alloc (Nat.le_refl _) _
              have r11 : RowV (x1.alloc (.cells #[.slice TA text.length tc] 22)) (Value.slice (some ⟨x1.heap.size, 0, none⟩) 1 1) [.slice TA text.length tc] := RowV.new _ [.slice TA text.length tc] 1 rfl
              generalize x1.alloc (.cells #[.slice TA text.length tc] 22) = x4 at *
              generalize Value.slice (some ⟨x1.heap.size, 0, none⟩) 1 1 = u11 at *
              replace aK := aK.below hn
              replace hb := hb.trans (hn.mono hb.size)
              replace aU := aU.below hn
              replace aT := aT.below hn
              replace aV := aV.below hn
              replace r7 := r7.below hn
              refine hK _ _ (fun _ _ => trivial) ?_
              clear hK K hn
              exact hS7_11 u7 u11 x4 ⟨aK, hb, aU, aT, aV, r7, r11⟩
          · go_simp
            have hn : Below x0.heap.size x0 (x0.alloc (.cells #[.slice TA text.length tc] 22)) := (Below.refl _ _).alloc (Nat.le_refl _) _
            have r11 : RowV (x0.alloc (.cells #[.slice TA text.length tc] 22)) (Value.slice (some ⟨x0.heap.size, 0, none⟩) 1 1) [.slice TA text.length tc] := RowV.new _ [.slice TA text.length tc] 1 rfl
            generalize x0.alloc (.cells #[.slice TA text.length tc] 22) = x5 at *
            generalize Value.slice (some ⟨x0.heap.size, 0, none⟩) 1 1 = u11 at *
            replace aK := aK.below hn
            replace hb := hb.trans (hn.mono hb.size)
            replace aU := aU.below hn
            replace aT := aT.below hn
            replace aV := aV.below hn
            refine hK _ _ (fun _ _ => trivial) ?_
            clear hK K hn
            refine mix_eff rfl rfl (fun K hK => ?_)
            go_simp
            have hn : Below x5.heap.size x5 (x5.alloc (.cells #[.slice TA kk tc, .slice none 0 0, .slice (cutA TA kk tc 1) (text.length - kk) (tc - kk)] 22)) := (Below.refl _ _).alloc (Nat.le_refl _) _
            have r7 : RowV (x5.alloc (.cells #[.slice TA kk tc, .slice none 0 0, .slice (cutA TA kk tc 1) (text.length - kk) (tc - kk)] 22)) (Value.slice (some ⟨x5.heap.size, 0, none⟩) 3 3) [.slice TA kk tc, .slice none 0 0, .slice (cutA TA kk tc 1) (text.length - kk) (tc - kk)] := RowV.new _ [.slice TA kk tc, .slice none 0 0, .slice (cutA TA kk tc 1) (text.length - kk) (tc - kk)] 3 rfl
            generalize x5.alloc (.cells #[.slice TA kk tc, .slice none 0 0, .slice (cutA TA kk tc 1) (text.length - kk) (tc - kk)] 22) = x6 at *
            generalize Value.slice (some ⟨x5.heap.size, 0, none⟩) 3 3 = u7 at *
            replace aK := aK.below hn
            replace hb := hb.trans (hn.mono hb.size)
            replace aU := aU.below hn
            replace aT := aT.below hn
            replace aV := aV.below hn
            replace r11 := r11.below hn
            refine hK _ _ (fun _ _ => trivial) ?_
            clear hK K hn
            exact hS7_11 u7 u11 x6 ⟨aK, hb, aU, aT, aV, r7, r11⟩
        · intro u7 u11 wx hA
          obtain ⟨aK, hb, aU, aT, aV, r7, r11⟩ := hA
          refine mix_eff rfl rfl (fun K hK => ?_)
          go_simp
          refine (hmac3_r aK (by have := HKL.out; omega) r7 aU (RowArg.nil _) aV (by have := HTL.out; simp; omega)).mono ?_
          rintro e x7 ⟨rfl, hn⟩
          rw [HT.out]
          replace aK := aK.below hn
          replace hb := hb.trans (hn.mono hb.size)
          replace aT := aT.below hn
          replace r11 := r11.below hn
          refine hK _ _ (fun _ _ => trivial) ?_
          clear hK K hn
          clear aU aV r7
          exact hS7_8_11 u7 u11 x7 ⟨aK, hb, aT, r11⟩
      · intro u7 u11 wx hA
        obtain ⟨aK, hb, aT, r11⟩ := hA
        refine mix_eff rfl rfl (fun K hK => ?_)
        go_simp
        refine (hmac1_r aK (by have := HKL.out; omega) r11 aT (by have := HTL.out; omega)).mono ?_
        rintro e x8 ⟨rfl, hn⟩
        replace aK := aK.below hn
        replace hb := hb.trans (hn.mono hb.size)
        refine hK _ _ (fun _ _ => trivial) ?_
        clear hK K hn
        clear aT r11
        repeat (refine mix_pure rfl rfl (fun K hK => ?_); go_simp; refine hK _ ?_; clear hK K)
        refine mix_fork rfl rfl (fun K hK => ?_) (fun K hK => ?_)
        · go_simp
          refine (hmac0_v aK (by have := HKL.out; omega)).mono ?_
          rintro e x9 ⟨rfl, hn⟩
          replace aK := aK.below hn
          replace hb := hb.trans (hn.mono hb.size)
          refine hK _ _ (fun _ _ => trivial) ?_
          clear hK K hn
          refine mix_eff rfl rfl (fun K hK => ?_)
          go_simp
          have hn : Below x9.heap.size x9 (x9.alloc (.cells #[.slice none 0 0] 22)) := (Below.refl _ _).alloc (Nat.le_refl _) _
          have r18 : RowV (x9.alloc (.cells #[.slice none 0 0] 22)) (Value.slice (some ⟨x9.heap.size, 0, none⟩) 1 1) [.slice none 0 0] := RowV.new _ [.slice none 0 0] 1 rfl
          generalize x9.alloc (.cells #[.slice none 0 0] 22) = x10 at *
          generalize Value.slice (some ⟨x9.heap.size, 0, none⟩) 1 1 = u18 at *
          replace aK := aK.below hn
          replace hb := hb.trans (hn.mono hb.size)
          refine hK _ _ (fun _ _ => trivial) ?_
          clear hK K hn
          exact hS7_8_11_12_16_18 u7 u11 u18 x10 ⟨aK, hb, r18⟩
        · go_simp
          have hn : Below x8.heap.size x8 (x8.alloc (.cells #[.slice none 0 0] 22)) := (Below.refl _ _).alloc (Nat.le_refl _) _
          have r18 : RowV (x8.alloc (.cells #[.slice none 0 0] 22)) (Value.slice (some ⟨x8.heap.size, 0, none⟩) 1 1) [.slice none 0 0] := RowV.new _ [.slice none 0 0] 1 rfl
          generalize x8.alloc (.cells #[.slice none 0 0] 22) = x11 at *
          generalize Value.slice (some ⟨x8.heap.size, 0, none⟩) 1 1 = u18 at *
          replace aK := aK.below hn
          replace hb := hb.trans (hn.mono hb.size)
          refine hK _ _ (fun _ _ => trivial) ?_
          clear hK K hn
          refine mix_eff rfl rfl (fun K hK => ?_)
          go_simp
          refine (hmac0_v aK (by have := HKL.out; omega)).mono ?_
          rintro e x12 ⟨rfl, hn⟩
          replace aK := aK.below hn
          replace hb := hb.trans (hn.mono hb.size)
          replace r18 := r18.below hn
          refine hK _ _ (fun _ _ => trivial) ?_
          clear hK K hn
          exact hS7_8_11_12_16_18 u7 u11 u18 x12 ⟨aK, hb, r18⟩
    · intro u7 u11 u18 wx hA
      obtain ⟨aK, hb, r18⟩ := hA
      refine mix_eff rfl rfl (fun K hK => ?_)
      go_simp
      refine (hmac1_r aK (by have := HKL.out; omega) r18 (RowArg.nil _) (by simp)).mono ?_
      rintro e x13 ⟨rfl, hn⟩
      replace aK := aK.below hn
      replace hb := hb.trans (hn.mono hb.size)
      refine hK _ _ (fun _ _ => trivial) ?_
      clear hK K hn
      clear r18
      repeat (refine mix_pure rfl rfl (fun K hK => ?_); go_simp; refine hK _ ?_; clear hK K)
      refine mix_nil ?_
      go_wp2_with fail
      go_ret
      exact ⟨rfl, hb⟩
  · have hl0 : text.length = 0 := by omega
    obtain rfl : text = [] := List.eq_nil_of_length_eq_zero hl0
    have HT : Hid (([] : List (BitVec 8)) ++ [] ++ [] = []) := rfl
    replace hb := hb.drew
    have aK : Arg w1.drew (.slice KA key.length kc) key := arg_mk (HKR.out.below hb) HKC.out
    have aU : RowArg w1.drew (.slice TA 0 tc) ([] : List (BitVec 8)) := ⟨TA, tc, rfl, Nat.zero_le _, by simp, Rd.nil⟩
    have heq2 := eq_key (hmac key []) (hmac key []) (hmac_length _ _) (hmac_length _ _) rfl
    go_wp2_with fail
    clear hmd hqb hq htc htc2
    refine mix_plan (fun _ => True) (.step 0 (.step 1 (.step 2 (.step 3 (.step 4 (.step 5 (.step 6 (.step 9 (.step 10 (.fork 7 11 (.fork 8 11 (.step 11 (.step 12 (.step 13 (.step 14 (.step 15 (.step 17 (.fork 16 18 (.step 18 (.step 19 (.step 20 (.step 21 (.step 22 (.done)))))) (.step 16 (.step 19 (.step 20 (.step 21 (.step 22 (.done))))))))))))) (.step 8 (.step 12 (.step 13 (.step 14 (.step 15 (.step 17 (.fork 16 18 (.step 18 (.step 19 (.step 20 (.step 21 (.step 22 (.done)))))) (.step 16 (.step 19 (.step 20 (.step 21 (.step 22 (.done)))))))))))))) (.step 7 (.step 8 (.step 12 (.step 13 (.step 14 (.step 15 (.step 17 (.fork 16 18 (.step 18 (.step 19 (.step 20 (.step 21 (.step 22 (.done)))))) (.step 16 (.step 19 (.step 20 (.step 21 (.step 22 (.done)))))))))))))))))))))))) [7, 8, 11, 12, 16, 18, 19] [] [] (by kernel_rfl) (by kernel_rfl) (fun d _ _ _ _ h => by cases d <;> exact h) trivial ?_
    generalize w1.drew = x0 at *
    repeat (refine mix_pure rfl rfl (fun K hK => ?_); go_simp; refine hK _ ?_; clear hK K)
    apply share3 (A := fun u7 u11 u18 wx => Arg wx (.slice KA key.length kc) key ∧ Below w.heap.size w wx ∧ RowV wx u18 [.slice none 0 0])
    · intro hS7_8_11_12_16_18
      apply share2 (A := fun u7 u11 wx => Arg wx (.slice KA key.length kc) key ∧ Below w.heap.size w wx ∧ RowArg wx (.slice TA 0 tc) ([] : List (BitVec 8)) ∧ RowV wx u11 [.slice TA 0 tc])
      · intro hS7_8_11
        apply share2 (A := fun u7 u11 wx => Arg wx (.slice KA key.length kc) key ∧ Below w.heap.size w wx ∧ RowArg wx (.slice TA 0 tc) ([] : List (BitVec 8)) ∧ RowV wx u7 [.slice TA 0 tc, .slice none 0 0, .slice TA 0 tc] ∧ RowV wx u11 [.slice TA 0 tc])
        · intro hS7_11
          refine mix_fork rfl rfl (fun K hK => ?_) (fun K hK => ?_)
          · go_simp
            have hn : Below x0.heap.size x0 (x0.alloc (.cells #[.slice TA 0 tc, .slice none 0 0, .slice TA 0 tc] 22)) := (Below.refl _ _).alloc (Nat.le_refl _) _
            have r7 : RowV (x0.alloc (.cells #[.slice TA 0 tc, .slice none 0 0, .slice TA 0 tc] 22)) (Value.slice (some ⟨x0.heap.size, 0, none⟩) 3 3) [.slice TA 0 tc, .slice none 0 0, .slice TA 0 tc] := RowV.new _ [.slice TA 0 tc, .slice none 0 0, .slice TA 0 tc] 3 rfl
            generalize x0.alloc (.cells #[.slice TA 0 tc, .slice none 0 0, .slice TA 0 tc] 22) = x1 at *
            generalize Value.slice (some ⟨x0.heap.size, 0, none⟩) 3 3 = u7 at *
            replace aK := aK.below hn
            replace hb := hb.trans (hn.mono hb.size)
            replace aU := aU.below hn
            refine hK _ _ (fun _ _ => trivial) ?_
            clear hK K hn
            refine mix_fork rfl rfl (fun K hK => ?_) (fun K hK => ?_)
            · go_simp
              refine (hmac3_r aK (by have := HKL.out; omega) r7 aU (RowArg.nil _) aU (by simp)).mono ?_
              rintro e x2 ⟨rfl, hn⟩
              rw [HT.out]
              replace aK := aK.below hn
              replace hb := hb.trans (hn.mono hb.size)
              replace aU := aU.below hn
              refine hK _ _ (fun _ _ => trivial) ?_
              clear hK K hn
              clear r7
              refine mix_eff rfl rfl (fun K hK => ?_)
              go_simp
              have hn : Below x2.heap.size x2 (x2.alloc (.cells #[.slice TA 0 tc] 22)) := (Below.refl _ _).alloc (Nat.le_refl _) _
              have r11 : RowV (x2.alloc (.cells #[.slice TA 0 tc] 22)) (Value.slice (some ⟨x2.heap.size, 0, none⟩) 1 1) [.slice TA 0 tc] := RowV.new _ [.slice TA 0 tc] 1 rfl
              generalize x2.alloc (.cells #[.slice TA 0 tc] 22) = x3 at *
              generalize Value.slice (some ⟨x2.heap.size, 0, none⟩) 1 1 = u11 at *
              replace aK := aK.below hn
              replace hb := hb.trans (hn.mono hb.size)
              replace aU := aU.below hn
              refine hK _ _ (fun _ _ => trivial) ?_
              clear hK K hn
              exact hS7_8_11 u7 u11 x3 ⟨aK, hb, aU, r11⟩
            · go_simp
              have hn : Below x1.heap.size x1 (x1.alloc (.cells #[.slice TA 0 tc] 22)) := (Below.refl _ _).alloc (Nat.le_refl _) _
              have r11 : RowV (x1.alloc (.cells #[.slice TA 0 tc] 22)) (Value.slice (some ⟨x1.heap.size, 0, none⟩) 1 1) [.slice TA 0 tc] := RowV.new _ [.slice TA 0 tc] 1 rfl
              generalize x1.alloc (.cells #[.slice TA 0 tc] 22) = x4 at *
              generalize Value.slice (some ⟨x1.heap.size, 0, none⟩) 1 1 = u11 at *
              replace aK := aK.below hn
              replace hb := hb.trans (hn.mono hb.size)
              replace aU := aU.below hn
              replace r7 := r7.below hn
              refine hK _ _ (fun _ _ => trivial) ?_
              clear hK K hn
              exact hS7_11 u7 u11 x4 ⟨aK, hb, aU, r7, r11⟩
          · go_simp
            have hn : Below x0.heap.size x0 (x0.alloc (.cells #[.slice TA 0 tc] 22)) := (Below.refl _ _).alloc (Nat.le_refl _) _
            have r11 : RowV (x0.alloc (.cells #[.slice TA 0 tc] 22)) (Value.slice (some ⟨x0.heap.size, 0, none⟩) 1 1) [.slice TA 0 tc] := RowV.new _ [.slice TA 0 tc] 1 rfl
            generalize x0.alloc (.cells #[.slice TA 0 tc] 22) = x5 at *
            generalize Value.slice (some ⟨x0.heap.size, 0, none⟩) 1 1 = u11 at *
            replace aK := aK.below hn
            replace hb := hb.trans (hn.mono hb.size)
            replace aU := aU.below hn
            refine hK _ _ (fun _ _ => trivial) ?_
            clear hK K hn
            refine mix_eff rfl rfl (fun K hK => ?_)
            go_simp
            have hn : Below x5.heap.size x5 (x5.alloc (.cells #[.slice TA 0 tc, .slice none 0 0, .slice TA 0 tc] 22)) := (Below.refl _ _).alloc (Nat.le_refl _) _
            have r7 : RowV (x5.alloc (.cells #[.slice TA 0 tc, .slice none 0 0, .slice TA 0 tc] 22)) (Value.slice (some ⟨x5.heap.size, 0, none⟩) 3 3) [.slice TA 0 tc, .slice none 0 0, .slice TA 0 tc] := RowV.new _ [.slice TA 0 tc, .slice none 0 0, .slice TA 0 tc] 3 rfl
            generalize x5.alloc (.cells #[.slice TA 0 tc, .slice none 0 0, .slice TA 0 tc] 22) = x6 at *
            generalize Value.slice (some ⟨x5.heap.size, 0, none⟩) 3 3 = u7 at *
            replace aK := aK.below hn
            replace hb := hb.trans (hn.mono hb.size)
            replace aU := aU.below hn
            replace r11 := r11.below hn
            refine hK _ _ (fun _ _ => trivial) ?_
            clear hK K hn
            exact hS7_11 u7 u11 x6 ⟨aK, hb, aU, r7, r11⟩
        · intro u7 u11 wx hA
          obtain ⟨aK, hb, aU, r7, r11⟩ := hA
          refine mix_eff rfl rfl (fun K hK => ?_)
          go_simp
          refine (hmac3_r aK (by have := HKL.out; omega) r7 aU (RowArg.nil _) aU (by simp)).mono ?_
          rintro e x7 ⟨rfl, hn⟩
          rw [HT.out]
          replace aK := aK.below hn
          replace hb := hb.trans (hn.mono hb.size)
          replace aU := aU.below hn
          replace r11 := r11.below hn
          refine hK _ _ (fun _ _ => trivial) ?_
          clear hK K hn
          clear r7
          exact hS7_8_11 u7 u11 x7 ⟨aK, hb, aU, r11⟩
      · intro u7 u11 wx hA
        obtain ⟨aK, hb, aU, r11⟩ := hA
        refine mix_eff rfl rfl (fun K hK => ?_)
        go_simp
        refine (hmac1_r aK (by have := HKL.out; omega) r11 aU (by simp)).mono ?_
        rintro e x8 ⟨rfl, hn⟩
        replace aK := aK.below hn
        replace hb := hb.trans (hn.mono hb.size)
        refine hK _ _ (fun _ _ => trivial) ?_
        clear hK K hn
        clear aU r11
        repeat (refine mix_pure rfl rfl (fun K hK => ?_); go_simp; refine hK _ ?_; clear hK K)
        refine mix_fork rfl rfl (fun K hK => ?_) (fun K hK => ?_)
        · go_simp
          refine (hmac0_v aK (by have := HKL.out; omega)).mono ?_
          rintro e x9 ⟨rfl, hn⟩
          replace aK := aK.below hn
          replace hb := hb.trans (hn.mono hb.size)
          refine hK _ _ (fun _ _ => trivial) ?_
          clear hK K hn
          refine mix_eff rfl rfl (fun K hK => ?_)
          go_simp
          have hn : Below x9.heap.size x9 (x9.alloc (.cells #[.slice none 0 0] 22)) := (Below.refl _ _).alloc (Nat.le_refl _) _
          have r18 : RowV (x9.alloc (.cells #[.slice none 0 0] 22)) (Value.slice (some ⟨x9.heap.size, 0, none⟩) 1 1) [.slice none 0 0] := RowV.new _ [.slice none 0 0] 1 rfl
          generalize x9.alloc (.cells #[.slice none 0 0] 22) = x10 at *
          generalize Value.slice (some ⟨x9.heap.size, 0, none⟩) 1 1 = u18 at *
          replace aK := aK.below hn
          replace hb := hb.trans (hn.mono hb.size)
          refine hK _ _ (fun _ _ => trivial) ?_
          clear hK K hn
          exact hS7_8_11_12_16_18 u7 u11 u18 x10 ⟨aK, hb, r18⟩
        · go_simp
          have hn : Below x8.heap.size x8 (x8.alloc (.cells #[.slice none 0 0] 22)) := (Below.refl _ _).alloc (Nat.le_refl _) _
          have r18 : RowV (x8.alloc (.cells #[.slice none 0 0] 22)) (Value.slice (some ⟨x8.heap.size, 0, none⟩) 1 1) [.slice none 0 0] := RowV.new _ [.slice none 0 0] 1 rfl
          generalize x8.alloc (.cells #[.slice none 0 0] 22) = x11 at *
          generalize Value.slice (some ⟨x8.heap.size, 0, none⟩) 1 1 = u18 at *
          replace aK := aK.below hn
          replace hb := hb.trans (hn.mono hb.size)
          refine hK _ _ (fun _ _ => trivial) ?_
          clear hK K hn
          refine mix_eff rfl rfl (fun K hK => ?_)
          go_simp
          refine (hmac0_v aK (by have := HKL.out; omega)).mono ?_
          rintro e x12 ⟨rfl, hn⟩
          replace aK := aK.below hn
          replace hb := hb.trans (hn.mono hb.size)
          replace r18 := r18.below hn
          refine hK _ _ (fun _ _ => trivial) ?_
          clear hK K hn
          exact hS7_8_11_12_16_18 u7 u11 u18 x12 ⟨aK, hb, r18⟩
    · intro u7 u11 u18 wx hA
      obtain ⟨aK, hb, r18⟩ := hA
      refine mix_eff rfl rfl (fun K hK => ?_)
      go_simp
      refine (hmac1_r aK (by have := HKL.out; omega) r18 (RowArg.nil _) (by simp)).mono ?_
      rintro e x13 ⟨rfl, hn⟩
      replace aK := aK.below hn
      replace hb := hb.trans (hn.mono hb.size)
      refine hK _ _ (fun _ _ => trivial) ?_
      clear hK K hn
      clear r18
      repeat (refine mix_pure rfl rfl (fun K hK => ?_); go_simp; refine hK _ ?_; clear hK K)
      refine mix_nil ?_
      go_wp2_with fail
      go_ret
      exact ⟨rfl, hb⟩
end Go.Proofs.Ytgcdjickkbiglaa
