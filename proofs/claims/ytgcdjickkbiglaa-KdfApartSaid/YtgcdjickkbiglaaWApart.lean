/- A label and a part can't be taken for a longer label. -/
import Derived.Test.YtgcdjickkbiglaaKdfTwo
import Derived.Test.YtgcdjickkbiglaaKdfWakes
namespace Go.Proofs.Ytgcdjickkbiglaa
open Go.RowKit
set_option linter.unusedVariables false
set_option linter.unusedSimpArgs false
attribute [local go_sem] strB_size
set_option maxRecDepth 100000 in
set_option maxHeartbeats 8000000 in
theorem apart_walk (key label part : List (BitVec 8)) (PA : Option Addr) (pc : Nat) (w : World) (hk : key.length = 32) (hl : label.length ≤ 9223372036854775807) (hR : Rd w .u8 PA part) (hpc : part.length ≤ pc) (hpl : part.length ≤ 140737488351232) :
    Calls Try.prog 8 #[.agg (encs .u8 key), .string (strB label), .slice PA part.length pc] w fun e w' => e = .returned (.bool true) ∧ Below w.heap.size w w' := by
  have m0 : Blk (w.alloc (.cells (encs .u8 key) 25)) w.heap.size (encs .u8 key) 25 := Blk.new _ _ _
  have hb : Below w.heap.size w (w.alloc (.cells (encs .u8 key) 25)) := (Below.refl _ _).alloc (Nat.le_refl _) _
  have hP : RowArg w (.slice PA part.length pc) part := ⟨PA, pc, rfl, hpc, hpl, hR⟩
  have HP := Lib.hid hP
  have HK := Lib.hid hk
  clear hR hP hpc hpl
  by_cases i1 : (1000 : Int) < (label.length : Int)
  · go_enter Try.func8, Try.ntmps8
    go_wp2_with fail
    refine (wakes_any _).mono ?_
    rintro e w1 ⟨rfl, hn⟩
    go_wp2_with fail
    go_ret
    exact ⟨rfl, hb.trans (hn.mono hb.size)⟩
  by_cases i2 : (1000 : Int) < (part.length : Int)
  · go_enter Try.func8, Try.ntmps8
    go_wp2_with fail
    refine (wakes_any _).mono ?_
    rintro e w1 ⟨rfl, hn⟩
    go_wp2_with fail
    go_ret
    exact ⟨rfl, hb.trans (hn.mono hb.size)⟩
  have HLL : Hid (label.length ≤ 1000) := by show _ ≤ _; omega
  have HPL : Hid (part.length ≤ 1000) := by show _ ≤ _; omega
  have hcl : IntKind.u32.wrap (label.length : Int) = wb (BitVec.ofNat 32 label.length) := wrap_nat isU32 _
  have hcp : IntKind.u32.wrap (part.length : Int) = wb (BitVec.ofNat 32 part.length) := wrap_nat isU32 _
  have HC1 := Lib.hid (lenL_32 label.length (by omega))
  have HC2 := Lib.hid (lenL_32 part.length (by omega))
  have HI0 := Lib.hid (infoL_nil label)
  have HI1 : Hid (infoL label [] ++ lenL part.length ++ part = infoL label [part]) := by show _ = _; simp [infoL]
  have HL0 : Hid ((infoL label []).length = 4 + label.length) := by show _ = _; rw [infoL_length]; simp
  have HL1 : Hid ((infoL label [part]).length = 4 + label.length + (4 + part.length)) := by show _ = _; rw [infoL_length]; simp
  have HW := Lib.hid (expand_length key (infoL label []) 32)
  have HX := Lib.hid (twoK_length key label [part])
  have HZ : Hid ((twoK key label []).take 32 = expand key (infoL label []) 32) := expand_take key (infoL label []) 32 64 (by omega)
  go_enter Try.func8, Try.ntmps8
  go_wp2_with fail
  refine (wakes_any _).mono ?_
  rintro e w1 ⟨rfl, hn⟩
  replace m0 := m0.below hn m0.lt
  replace hb := hb.trans (hn.mono hb.size)
  have m0k := m0.lt
  clear hn
  go_wp2_with fail
  have h0 := put32_v (Arg.nil w1) (BitVec.ofNat 32 label.length) (by simp)
  rw [List.nil_append, HC1.out] at h0
  refine h0.mono ?_
  rintro e w2 ⟨v2, rfl, h2, hn⟩
  clear h0
  replace h2 : OwnB w2 w1.heap.size v2 (lenL label.length) := h2
  replace m0 := m0.below hn m0.lt
  replace hb := hb.trans (hn.mono hb.size)
  have hs2 := hn.size
  clear hn
  go_wp2_with (first | (at_builtin; refine wpList_app_str rfl _ _ rfl w1.heap.size _ _ rfl h2 label rfl (by have := HLL.out; rw [lenL_length]; omega) hs2 ?_; intro v3 w3 h3 _ hn; rw [← HI0.out] at h3; replace m0 := m0.below hn m0k; replace hb := hb.trans (hn.mono (Nat.le_of_lt m0k)); clear hn) | (refine wpList_load_row rfl 25 _ rfl w.heap.size rfl 25 _ (0, 0) _ m0 Try.underlying25 rfl (by rw [encs_size, HK.out]; exact sizeKey0) ?_) | fail)
  refine (expand_any key (infoL label []) v3 32 w3 HK.out (h3.row (by have := HL0.out; have := HLL.out; omega)) (by have := HL0.out; have := HLL.out; omega) (by omega)).mono ?_
  rintro e w4 ⟨v4, rfl, h4, -, hn⟩
  replace h3 := h3.below hn
  replace m0 := m0.below hn m0.lt
  replace hb := hb.trans (hn.mono hb.size)
  clear hn hs2 h2
  go_wp2_with fail
  have h0 := put32_v h3.arg (BitVec.ofNat 32 part.length) (by have := HL0.out; have := HLL.out; omega)
  rw [HC2.out] at h0
  refine h0.mono ?_
  rintro e w5 ⟨v5, rfl, h5, hn⟩
  clear h0 h3
  replace h5 : OwnB w5 w4.heap.size v5 (infoL label [] ++ lenL part.length) := h5
  have m4k := m0.lt
  replace m0 := m0.below hn m0.lt
  have hs2 := hn.size
  have hAP := (HP.out.below (hb.trans (hn.mono hb.size))).arg
  have hlen : (infoL label [] ++ lenL part.length).length + part.length ≤ 140737488355328 := by rw [List.length_append, lenL_length, HL0.out]; have := HLL.out; have := HPL.out; omega
  have HH := Lib.hid (And.intro h4 (And.intro hb hn))
  clear hb h4 hn
  go_wp2_with (first | (at_builtin; refine wpList_app2 rfl _ _ rfl w4.heap.size _ _ rfl h5 _ part rfl hAP hlen hs2 ?_; intro v6 w6 h6 _ hn; rw [HI1.out] at h6; replace m0 := m0.below hn m4k; replace hn := HH.out.2.2.trans hn) | (refine wpList_load_row rfl 25 _ rfl w.heap.size rfl 25 _ (0, 0) _ m0 Try.underlying25 rfl (by rw [encs_size, HK.out]; exact sizeKey0) ?_) | fail)
  have hb := HH.out.2.1
  have h4 := HH.out.1.below hn
  replace hb := hb.trans (hn.mono hb.size)
  clear hn HH hAP hlen h5
  refine (expand_any key (infoL label [part]) v6 64 w6 HK.out (h6.row (by have := HL1.out; have := HLL.out; have := HPL.out; omega)) (by have := HL1.out; have := HLL.out; have := HPL.out; omega) (by omega)).mono ?_
  rintro e w7 ⟨v7, rfl, h7, -, hn⟩
  replace h7 : RowArg w7 v7 (twoK key label [part]) := h7
  replace h4 := h4.below hn
  replace m0 := m0.below hn m0.lt
  replace hb := hb.trans (hn.mono hb.size)
  clear hn h6
  have hn : Below w7.heap.size w7 (w7.alloc (.cells #[.slice PA part.length pc] 22)) := (Below.refl _ _).alloc (Nat.le_refl _) _
  have mp := Blk.new w7 #[.slice PA part.length pc] 22
  have hPR : PartsR (w7.alloc (.cells #[.slice PA part.length pc] 22)) (some ⟨w7.heap.size, 0, none⟩) [part] := ⟨[.slice PA part.length pc], Blk.rdv (vs := [.slice PA part.length pc]) mp, rfl, fun i hi => by
    obtain rfl : i = 0 := by simp at hi; omega
    exact (HP.out.below hb).below hn⟩
  have m0' := m0.below hn m0.lt
  go_wp2_with (first | (refine wpList_load_row rfl 25 _ rfl w.heap.size rfl 25 _ (0, 0) _ m0 Try.underlying25 rfl (by rw [encs_size, HK.out]; exact sizeKey0) ?_) | fail)
  refine (two_any key label [part] (some ⟨w7.heap.size, 0, none⟩) 1 _ HK.out hPR (by have := HLL.out; omega) (by simp) (by have := HPL.out; simp; omega)).mono ?_
  rintro e w8 ⟨rfl, hn2⟩
  replace hn := hn.trans (hn2.mono hn.size)
  replace h4 := h4.below hn
  replace h7 := h7.below hn
  replace m0 := m0.below hn m0.lt
  replace hb := hb.trans (hn.mono hb.size)
  clear hn hn2 m0' mp hPR
  have HXL : Hid (((twoK key label [part]).take 32).length = 32) := by show _ = _; rw [List.length_take, HX.out]; rfl
  have HYL : Hid (((twoK key label [part]).drop 32).length = 32) := by show _ = _; rw [List.length_drop, HX.out]
  obtain ⟨X, hX⟩ : ∃ X, (twoK key label [part]).take 32 = X := ⟨_, rfl⟩
  obtain ⟨Y, hY⟩ : ∃ Y, (twoK key label [part]).drop 32 = Y := ⟨_, rfl⟩
  rw [hX] at HXL ⊢
  rw [hY] at HYL ⊢
  have HXX := Lib.hid hX
  have HYY := Lib.hid hY
  clear hX hY
  obtain ⟨n2, n3, hn⟩ : Blk ((w8.alloc (.cells #[Value.int .u8 0, Value.int .u8 0, Value.int .u8 0, Value.int .u8 0, Value.int .u8 0, Value.int .u8 0, Value.int .u8 0, Value.int .u8 0, Value.int .u8 0, Value.int .u8 0, Value.int .u8 0, Value.int .u8 0, Value.int .u8 0, Value.int .u8 0, Value.int .u8 0, Value.int .u8 0, Value.int .u8 0, Value.int .u8 0, Value.int .u8 0, Value.int .u8 0, Value.int .u8 0, Value.int .u8 0, Value.int .u8 0, Value.int .u8 0, Value.int .u8 0, Value.int .u8 0, Value.int .u8 0, Value.int .u8 0, Value.int .u8 0, Value.int .u8 0, Value.int .u8 0, Value.int .u8 0] 25)).alloc (.cells #[Value.int .u8 0, Value.int .u8 0, Value.int .u8 0, Value.int .u8 0, Value.int .u8 0, Value.int .u8 0, Value.int .u8 0, Value.int .u8 0, Value.int .u8 0, Value.int .u8 0, Value.int .u8 0, Value.int .u8 0, Value.int .u8 0, Value.int .u8 0, Value.int .u8 0, Value.int .u8 0, Value.int .u8 0, Value.int .u8 0, Value.int .u8 0, Value.int .u8 0, Value.int .u8 0, Value.int .u8 0, Value.int .u8 0, Value.int .u8 0, Value.int .u8 0, Value.int .u8 0, Value.int .u8 0, Value.int .u8 0, Value.int .u8 0, Value.int .u8 0, Value.int .u8 0, Value.int .u8 0] 25)) w8.heap.size (encs .u8 z32s) 25 ∧ Blk ((w8.alloc (.cells #[Value.int .u8 0, Value.int .u8 0, Value.int .u8 0, Value.int .u8 0, Value.int .u8 0, Value.int .u8 0, Value.int .u8 0, Value.int .u8 0, Value.int .u8 0, Value.int .u8 0, Value.int .u8 0, Value.int .u8 0, Value.int .u8 0, Value.int .u8 0, Value.int .u8 0, Value.int .u8 0, Value.int .u8 0, Value.int .u8 0, Value.int .u8 0, Value.int .u8 0, Value.int .u8 0, Value.int .u8 0, Value.int .u8 0, Value.int .u8 0, Value.int .u8 0, Value.int .u8 0, Value.int .u8 0, Value.int .u8 0, Value.int .u8 0, Value.int .u8 0, Value.int .u8 0, Value.int .u8 0] 25)).alloc (.cells #[Value.int .u8 0, Value.int .u8 0, Value.int .u8 0, Value.int .u8 0, Value.int .u8 0, Value.int .u8 0, Value.int .u8 0, Value.int .u8 0, Value.int .u8 0, Value.int .u8 0, Value.int .u8 0, Value.int .u8 0, Value.int .u8 0, Value.int .u8 0, Value.int .u8 0, Value.int .u8 0, Value.int .u8 0, Value.int .u8 0, Value.int .u8 0, Value.int .u8 0, Value.int .u8 0, Value.int .u8 0, Value.int .u8 0, Value.int .u8 0, Value.int .u8 0, Value.int .u8 0, Value.int .u8 0, Value.int .u8 0, Value.int .u8 0, Value.int .u8 0, Value.int .u8 0, Value.int .u8 0] 25)) (w8.heap.size + 1) (encs .u8 z32s) 25 ∧ Below w8.heap.size w8 ((w8.alloc (.cells #[Value.int .u8 0, Value.int .u8 0, Value.int .u8 0, Value.int .u8 0, Value.int .u8 0, Value.int .u8 0, Value.int .u8 0, Value.int .u8 0, Value.int .u8 0, Value.int .u8 0, Value.int .u8 0, Value.int .u8 0, Value.int .u8 0, Value.int .u8 0, Value.int .u8 0, Value.int .u8 0, Value.int .u8 0, Value.int .u8 0, Value.int .u8 0, Value.int .u8 0, Value.int .u8 0, Value.int .u8 0, Value.int .u8 0, Value.int .u8 0, Value.int .u8 0, Value.int .u8 0, Value.int .u8 0, Value.int .u8 0, Value.int .u8 0, Value.int .u8 0, Value.int .u8 0, Value.int .u8 0] 25)).alloc (.cells #[Value.int .u8 0, Value.int .u8 0, Value.int .u8 0, Value.int .u8 0, Value.int .u8 0, Value.int .u8 0, Value.int .u8 0, Value.int .u8 0, Value.int .u8 0, Value.int .u8 0, Value.int .u8 0, Value.int .u8 0, Value.int .u8 0, Value.int .u8 0, Value.int .u8 0, Value.int .u8 0, Value.int .u8 0, Value.int .u8 0, Value.int .u8 0, Value.int .u8 0, Value.int .u8 0, Value.int .u8 0, Value.int .u8 0, Value.int .u8 0, Value.int .u8 0, Value.int .u8 0, Value.int .u8 0, Value.int .u8 0, Value.int .u8 0, Value.int .u8 0, Value.int .u8 0, Value.int .u8 0] 25)) :=
    ⟨(Blk.new _ _ _).alloc _, Blk.new_at _ _ _ _ (by simp), ((Below.refl _ _).alloc (Nat.le_refl _) _).alloc (by simp) _⟩
  obtain ⟨w9, hw9⟩ : ∃ w9, w9 = ((w8.alloc (.cells #[Value.int .u8 0, Value.int .u8 0, Value.int .u8 0, Value.int .u8 0, Value.int .u8 0, Value.int .u8 0, Value.int .u8 0, Value.int .u8 0, Value.int .u8 0, Value.int .u8 0, Value.int .u8 0, Value.int .u8 0, Value.int .u8 0, Value.int .u8 0, Value.int .u8 0, Value.int .u8 0, Value.int .u8 0, Value.int .u8 0, Value.int .u8 0, Value.int .u8 0, Value.int .u8 0, Value.int .u8 0, Value.int .u8 0, Value.int .u8 0, Value.int .u8 0, Value.int .u8 0, Value.int .u8 0, Value.int .u8 0, Value.int .u8 0, Value.int .u8 0, Value.int .u8 0, Value.int .u8 0] 25)).alloc (.cells #[Value.int .u8 0, Value.int .u8 0, Value.int .u8 0, Value.int .u8 0, Value.int .u8 0, Value.int .u8 0, Value.int .u8 0, Value.int .u8 0, Value.int .u8 0, Value.int .u8 0, Value.int .u8 0, Value.int .u8 0, Value.int .u8 0, Value.int .u8 0, Value.int .u8 0, Value.int .u8 0, Value.int .u8 0, Value.int .u8 0, Value.int .u8 0, Value.int .u8 0, Value.int .u8 0, Value.int .u8 0, Value.int .u8 0, Value.int .u8 0, Value.int .u8 0, Value.int .u8 0, Value.int .u8 0, Value.int .u8 0, Value.int .u8 0, Value.int .u8 0, Value.int .u8 0, Value.int .u8 0] 25)).setRow w8.heap.size (encs .u8 X) := ⟨_, rfl⟩
  obtain ⟨wa, hwa⟩ : ∃ wa, wa = w9.setRow (w8.heap.size + 1) (encs .u8 Y) := ⟨_, rfl⟩
  have k3 : Blk w9 (w8.heap.size + 1) (encs .u8 z32s) 25 := by rw [hw9]; exact n3.farRow (by omega) _
  have kx : Blk wa w8.heap.size (encs .u8 X) 25 := by rw [hwa, hw9]; exact (n2.row (encs .u8 X)).farRow (by omega) _
  have ky : Blk wa (w8.heap.size + 1) (encs .u8 Y) 25 := by rw [hwa]; exact k3.row _
  have kb : Below w8.heap.size w8 wa := by rw [hwa, hw9]; exact below_setRow (below_setRow hn (Nat.le_refl _) _) (by omega) _
  replace h4 := h4.below kb
  replace h7 := h7.below kb
  replace m0 := m0.below kb m0.lt
  replace hb := hb.trans (kb.mono hb.size)
  have H9 := Lib.hid hw9
  have HA := Lib.hid hwa
  clear kb hn hw9 hwa
  go_wp2_with (first | (refine wpList_store_row rfl 25 _ _ rfl _ _ rfl rfl 25 _ n2 (by rw [encs_size, HXL.out]; exact sizeKey0) (by rw [encs_size, encs_size, HXL.out]; rfl) (encs_one _ _) ?_; change wpList _ _ _ _ _ (((w8.alloc (.cells #[Value.int .u8 0, Value.int .u8 0, Value.int .u8 0, Value.int .u8 0, Value.int .u8 0, Value.int .u8 0, Value.int .u8 0, Value.int .u8 0, Value.int .u8 0, Value.int .u8 0, Value.int .u8 0, Value.int .u8 0, Value.int .u8 0, Value.int .u8 0, Value.int .u8 0, Value.int .u8 0, Value.int .u8 0, Value.int .u8 0, Value.int .u8 0, Value.int .u8 0, Value.int .u8 0, Value.int .u8 0, Value.int .u8 0, Value.int .u8 0, Value.int .u8 0, Value.int .u8 0, Value.int .u8 0, Value.int .u8 0, Value.int .u8 0, Value.int .u8 0, Value.int .u8 0, Value.int .u8 0] 25)).alloc (.cells #[Value.int .u8 0, Value.int .u8 0, Value.int .u8 0, Value.int .u8 0, Value.int .u8 0, Value.int .u8 0, Value.int .u8 0, Value.int .u8 0, Value.int .u8 0, Value.int .u8 0, Value.int .u8 0, Value.int .u8 0, Value.int .u8 0, Value.int .u8 0, Value.int .u8 0, Value.int .u8 0, Value.int .u8 0, Value.int .u8 0, Value.int .u8 0, Value.int .u8 0, Value.int .u8 0, Value.int .u8 0, Value.int .u8 0, Value.int .u8 0, Value.int .u8 0, Value.int .u8 0, Value.int .u8 0, Value.int .u8 0, Value.int .u8 0, Value.int .u8 0, Value.int .u8 0, Value.int .u8 0] 25)).setRow w8.heap.size (encs .u8 X)); rw [← H9.out]; clear n2) | (refine wpList_store_row rfl 25 _ _ rfl _ _ rfl rfl 25 _ k3 (by rw [encs_size, HYL.out]; exact sizeKey0) (by rw [encs_size, encs_size, HYL.out]; rfl) (encs_one _ _) ?_; rw [← HA.out]; clear k3) | (refine wpList_load_row rfl 25 _ rfl w.heap.size rfl 25 _ (0, 0) _ m0 Try.underlying25 rfl (by rw [encs_size, HK.out]; exact sizeKey0) ?_) | fail)
  refine (derive_any key label [] none 0 wa HK.out ⟨[], fun i hi => by simp at hi, rfl, fun i hi => by simp at hi⟩ (by have := HLL.out; omega) (by simp) (by simp)).mono ?_
  rintro e wb' ⟨rfl, hn⟩
  rw [HZ.out]
  replace h4 := h4.below hn
  replace h7 := h7.below hn
  replace kx := kx.below hn kx.lt
  replace ky := ky.below hn ky.lt
  replace hb := hb.trans (hn.mono hb.size)
  clear hn m0 H9 HA
  have hN := Blk.new wb' (encs .u8 z32s) 25
  have kz := hN.row (encs .u8 (expand key (infoL label []) 32))
  have hn : Below wb'.heap.size wb' ((wb'.alloc (.cells (encs .u8 z32s) 25)).setRow wb'.heap.size (encs .u8 (expand key (infoL label []) 32))) := below_setRow ((Below.refl _ _).alloc (Nat.le_refl _) _) (Nat.le_refl _) _
  replace h4 := h4.below hn
  replace h7 := h7.below hn
  replace kx := kx.below hn kx.lt
  replace ky := ky.below hn ky.lt
  replace hb := hb.trans (hn.mono hb.size)
  clear hn
  go_wp2_with (first | (refine wpList_store_row rfl 25 _ _ rfl _ _ rfl rfl 25 _ hN (by rw [encs_size, HW.out]; exact sizeKey0) (by rw [encs_size, encs_size, HW.out]; rfl) (encs_one _ _) ?_; change wpList _ _ _ _ _ ((wb'.alloc (.cells (encs .u8 z32s) 25)).setRow wb'.heap.size (encs .u8 (expand key (infoL label []) 32))); generalize (wb'.alloc (.cells (encs .u8 z32s) 25)).setRow wb'.heap.size (encs .u8 (expand key (infoL label []) 32)) = wc at *; generalize wb'.heap.size = gz at *) | fail)
  have a4 : Arg wc v4 (expand key (infoL label []) 32) := h4.arg
  have az : Arg wc (.slice (some ⟨gz, 0, none⟩) 32 32) (expand key (infoL label []) 32) := kz.arg HW.out (Nat.le_refl _)
  have ax : Arg wc (.slice (some ⟨w8.heap.size, 0, none⟩) 32 32) X := kx.arg HXL.out (Nat.le_refl _)
  have ay : Arg wc (.slice (some ⟨w8.heap.size + 1, 0, none⟩) 32 32) Y := ky.arg HYL.out (Nat.le_refl _)
  obtain ⟨A7, c7, rfl, hc7, hR7⟩ := h7.form HX.out
  obtain ⟨g7, o7, rfl⟩ := hR7.somewhere (by rw [HX.out]; omega)
  have ax7 : Arg wc (.slice (some ⟨g7, o7, none⟩) 32 c7) X := arg_of (by rw [← HXX.out]; exact rd_take hR7 32) HXL.out (by omega)
  have hca : cutA (some ⟨g7, o7, none⟩) ((32 : Int).toNat) c7 1 = some ⟨g7, o7 + 32, none⟩ := by
    unfold cutA
    rw [if_neg (by simp; omega)]
    simp only [Option.map_some, add_lit]
    rfl
  have ay7 : Arg wc (.slice (some ⟨g7, o7 + 32, none⟩) 32 (c7 - 32)) Y := arg_of (by
    have h := rd_cut hR7 32 32 c7 (by rw [HX.out]; exact hc7)
    rw [show cutA (some ⟨g7, o7, none⟩) 32 c7 1 = some ⟨g7, o7 + 32, none⟩ from hca, List.take_of_length_le (by rw [List.length_drop, HX.out]; omega), HYY.out] at h
    exact h) HYL.out (by omega)
  have hs1 := fun wx => run_slice_to (P := Try.prog) bytesT (some ⟨g7, o7, none⟩) 64 c7 (32 : Int) .i64 (by omega) (by omega) wx
  rw [cutA_zero] at hs1
  replace hs1 : ∀ wx, (Instr.slice 22 (.slice (some ⟨g7, o7, none⟩) 64 c7) none (some (.int .i64 32)) none).run Try.prog wx = .ok (.slice (some ⟨g7, o7, none⟩) 32 c7) wx := hs1
  have hs2 := fun wx => run_slice_from (P := Try.prog) bytesT (some ⟨g7, o7, none⟩) 64 c7 (32 : Int) .i64 (by omega) (by omega) wx
  rw [hca] at hs2
  replace hs2 : ∀ wx, (Instr.slice 22 (.slice (some ⟨g7, o7, none⟩) 64 c7) (some (.int .i64 32)) none none).run Try.prog wx = .ok (.slice (some ⟨g7, o7 + 32, none⟩) 32 (c7 - 32)) wx := hs2
  clear hca hR7 h7 h4 kx ky kz hN
  refine mix_start (fun _ => True) (List.range 24) [9, 15, 21] [] [] (by kernel_rfl) (by kernel_rfl) (fun d _ _ _ _ h => by cases d <;> exact h) trivial ?_
  replace a4 := a4.drew
  replace az := az.drew
  replace ax := ax.drew
  replace ay := ay.drew
  replace ax7 := ax7.drew
  replace ay7 := ay7.drew
  replace hb := hb.drew
  generalize wc.drew = wd at *
  repeat (refine mix_pure rfl rfl (fun K hK => ?_); go_simp; refine hK _ ?_; clear hK K)
  refine mix_eff rfl rfl (fun K hK => ?_)
  go_simp
  refine (equal_v a4 az (by rw [HW.out]; omega)).mono ?_
  rintro e we ⟨rfl, hn⟩
  rw [beq_self_eq_true]
  replace ax := ax.below hn
  replace ay := ay.below hn
  replace ax7 := ax7.below hn
  replace ay7 := ay7.below hn
  replace hb := hb.trans (hn.mono hb.size)
  refine hK _ _ (fun _ _ => trivial) ?_
  clear hK K hn a4 az
  repeat (refine mix_pure rfl rfl (fun K hK => ?_); go_simp; refine hK _ ?_; clear hK K)
  refine mix_eff rfl rfl (fun K hK => ?_)
  go_simp
  refine (equal_v ax7 ax (by rw [HXL.out]; omega)).mono ?_
  rintro e wf ⟨rfl, hn⟩
  rw [beq_self_eq_true]
  replace ay := ay.below hn
  replace ay7 := ay7.below hn
  replace hb := hb.trans (hn.mono hb.size)
  refine hK _ _ (fun _ _ => trivial) ?_
  clear hK K hn ax ax7
  repeat (refine mix_pure rfl rfl (fun K hK => ?_); go_simp; refine hK _ ?_; clear hK K)
  refine mix_eff rfl rfl (fun K hK => ?_)
  go_simp
  refine (equal_v ay7 ay (by rw [HYL.out]; omega)).mono ?_
  rintro e wg ⟨rfl, hn⟩
  rw [beq_self_eq_true]
  replace hb := hb.trans (hn.mono hb.size)
  refine hK _ _ (fun _ _ => trivial) ?_
  clear hK K hn ay ay7
  repeat (refine mix_pure rfl rfl (fun K hK => ?_); go_simp; refine hK _ ?_; clear hK K)
  refine mix_nil ?_
  go_wp2_with fail
  go_ret
  exact ⟨rfl, hb⟩
end Go.Proofs.Ytgcdjickkbiglaa
