/- The code of whatever key and parts. -/
import Derived.Test.YtgcdjickkbiglaaKdfRefH
import Derived.Test.YtgcdjickkbiglaaKdfWakes
namespace Go.Proofs.Ytgcdjickkbiglaa
open Go.RowKit
set_option linter.unusedVariables false
set_option linter.unusedSimpArgs false
theorem hmac_pv {w : World} {kv : Value} {key : List (BitVec 8)} {ls : List (List (BitVec 8))} {PA : Option Addr} {pc : Nat} (hK : Arg w kv key) (hkl : key.length ≤ 281474976710656) (hP : PartsR w PA ls) (hll : ls.length ≤ 140737488355328) (hfl : ls.flatten.length ≤ 1125899906842624) :
    Calls Try.prog 10 #[kv, .slice PA ls.length pc] w (HmacD key ls.flatten w) := by
  obtain ⟨A, c, rfl, hc, hR⟩ := hK
  obtain ⟨vs, h1, h2, h3⟩ := hP
  exact hmac_any key A c ls vs PA pc w hR hc hkl h1 h2 h3 hll hfl
set_option maxHeartbeats 2000000 in
theorem extract_any {w : World} {kv v : Value} {key l : List (BitVec 8)} (hK : Arg w kv key) (hkl : key.length ≤ 281474976710656) (hL : RowArg w v l) :
    Calls Try.prog 15 #[kv, v] w (HmacD key l w) := by
  have HK := Lib.hid hK
  have HL := Lib.hid hL
  have HLL : Hid (l.length ≤ 140737488351232) := by obtain ⟨_, _, _, _, h, _⟩ := hL; exact h
  obtain ⟨KA, kc, rfl, -, -⟩ := hK
  obtain ⟨LA, lc, rfl, -, -, -⟩ := hL
  have m0 : Blk ((w.alloc (.cells #[Value.int .u8 0, Value.int .u8 0, Value.int .u8 0, Value.int .u8 0, Value.int .u8 0, Value.int .u8 0, Value.int .u8 0, Value.int .u8 0, Value.int .u8 0, Value.int .u8 0, Value.int .u8 0, Value.int .u8 0, Value.int .u8 0, Value.int .u8 0, Value.int .u8 0, Value.int .u8 0, Value.int .u8 0, Value.int .u8 0, Value.int .u8 0, Value.int .u8 0, Value.int .u8 0, Value.int .u8 0, Value.int .u8 0, Value.int .u8 0, Value.int .u8 0, Value.int .u8 0, Value.int .u8 0, Value.int .u8 0, Value.int .u8 0, Value.int .u8 0, Value.int .u8 0, Value.int .u8 0] 25)).alloc (.cells #[.slice LA l.length lc] 22)) w.heap.size (encs .u8 z32s) 25 := Blk.alloc (Blk.new _ _ _) _
  have m1 : Blk ((w.alloc (.cells #[Value.int .u8 0, Value.int .u8 0, Value.int .u8 0, Value.int .u8 0, Value.int .u8 0, Value.int .u8 0, Value.int .u8 0, Value.int .u8 0, Value.int .u8 0, Value.int .u8 0, Value.int .u8 0, Value.int .u8 0, Value.int .u8 0, Value.int .u8 0, Value.int .u8 0, Value.int .u8 0, Value.int .u8 0, Value.int .u8 0, Value.int .u8 0, Value.int .u8 0, Value.int .u8 0, Value.int .u8 0, Value.int .u8 0, Value.int .u8 0, Value.int .u8 0, Value.int .u8 0, Value.int .u8 0, Value.int .u8 0, Value.int .u8 0, Value.int .u8 0, Value.int .u8 0, Value.int .u8 0] 25)).alloc (.cells #[.slice LA l.length lc] 22)) (w.heap.size + 1) #[.slice LA l.length lc] 22 := Blk.new_at _ _ _ _ (by simp)
  have hb : Below w.heap.size w ((w.alloc (.cells #[Value.int .u8 0, Value.int .u8 0, Value.int .u8 0, Value.int .u8 0, Value.int .u8 0, Value.int .u8 0, Value.int .u8 0, Value.int .u8 0, Value.int .u8 0, Value.int .u8 0, Value.int .u8 0, Value.int .u8 0, Value.int .u8 0, Value.int .u8 0, Value.int .u8 0, Value.int .u8 0, Value.int .u8 0, Value.int .u8 0, Value.int .u8 0, Value.int .u8 0, Value.int .u8 0, Value.int .u8 0, Value.int .u8 0, Value.int .u8 0, Value.int .u8 0, Value.int .u8 0, Value.int .u8 0, Value.int .u8 0, Value.int .u8 0, Value.int .u8 0, Value.int .u8 0, Value.int .u8 0] 25)).alloc (.cells #[.slice LA l.length lc] 22)) := ((Below.refl _ _).alloc (Nat.le_refl _) _).alloc (by simp) _
  have HH := Lib.hid (hmac1_v (HK.out.below hb) hkl m1 (HL.out.below hb) (by have := HLL.out; omega))
  have HM := Lib.hid (hmac_length key l)
  clear m1 hkl
  go_enter Try.func15, Try.ntmps15
  go_wp2_with fail
  refine HH.out.mono ?_
  rintro e w1 ⟨rfl, hn⟩
  replace m0 := m0.below hn m0.lt
  replace hb := hb.trans (hn.mono hb.size)
  go_wp2_with (first | (refine wpList_store_row rfl 25 _ _ rfl _ _ rfl rfl 25 _ m0 (by rw [encs_size, HM.out]; exact sizeKey0) (by rw [encs_size, encs_size, HM.out]; rfl) (encs_one _ _) ?_) | fail)
  refine bodyPost_ret (v := .agg (encs .u8 (hmac key l))) (results_cell_row rfl _ _ _ _ _ _ _ rfl (m0.row _) Try.underlying25 rfl (by rw [encs_size, HM.out]; exact sizeKey0)) rfl ⟨rfl, below_setRow hb (Nat.le_refl _) _⟩
theorem small_pv {w : World} {ls : List (List (BitVec 8))} {PA : Option Addr} {pc : Nat} (hP : PartsR w PA ls) (hll : ls.length ≤ 140737488355328) :
    Calls Try.prog 11 #[.slice PA ls.length pc] w fun e w' => (e = .returned (.bool true) ∧ ls.flatten.length ≤ 4096 ∧ ls.length ≤ 100 ∨ e = .returned (.bool false)) ∧ Below w.heap.size w w' := by
  obtain ⟨vs, h1, h2, h3⟩ := hP
  exact small_any ls vs PA pc w h1 h2 h3 hll
theorem partsR1 {w : World} {g : Nat} {v : Value} {l : List (BitVec 8)} {T : TypeId} (hB : Blk w g #[v] T) (h : RowArg w v l) : PartsR w (some ⟨g, 0, none⟩) [l] := ⟨[v], Blk.rdv (vs := [v]) hB, rfl, fun i hi => by
  obtain rfl : i = 0 := by simp at hi; omega
  exact h⟩
set_option maxRecDepth 100000 in
set_option maxHeartbeats 8000000 in
theorem codes_walk (key : List (BitVec 8)) (ls : List (List (BitVec 8))) (KA PA : Option Addr) (kc pc : Nat) (w : World) (hK : RowArg w (.slice KA key.length kc) key) (hP : PartsR w PA ls) (hll : ls.length ≤ 140737488355328) :
    Calls Try.prog 4 #[.slice KA key.length kc, .slice PA ls.length pc] w fun e w' => e = .returned (.bool true) ∧ Below w.heap.size w w' := by
  have HK := Lib.hid hK
  have HP := Lib.hid hP
  clear hK hP
  go_enter Try.func4, Try.ntmps4
  go_wp2_with fail
  refine (wakes_any w).mono ?_
  rintro e w1 ⟨rfl, hb⟩
  go_wp2_with fail
  refine (small_pv (HP.out.below hb) hll).mono ?_
  rintro e w2 ⟨hs, hn⟩
  replace hb := hb.trans (hn.mono hb.size)
  clear hn
  rcases hs with ⟨rfl, hfl, hl1⟩ | rfl
  case inr =>
    go_wp2_with fail
    go_ret
    exact ⟨rfl, hb⟩
  have HFL := Lib.hid hfl
  have HL1 := Lib.hid hl1
  clear hfl hl1
  have hn : Below w2.heap.size w2 (w2.alloc (.cells #[.slice KA key.length kc] 22)) := (Below.refl _ _).alloc (Nat.le_refl _) _
  have hk1 := partsR1 (Blk.new w2 #[.slice KA key.length kc] 22) ((HK.out.below hb).below hn)
  have HS := Lib.hid (small_pv (pc := 1) hk1 (by simp))
  replace hb := hb.trans (hn.mono hb.size)
  clear hk1 hn
  go_wp2_with fail
  refine HS.out.mono ?_
  rintro e w3 ⟨hs, hn⟩
  replace hb := hb.trans (hn.mono hb.size)
  clear hn HS
  rcases hs with ⟨rfl, hfl, -⟩ | rfl
  case inr =>
    go_wp2_with fail
    go_ret
    exact ⟨rfl, hb⟩
  have HKL : Hid (key.length ≤ 4096) := by show _ ≤ _; simpa using hfl
  clear hfl
  go_wp2_with fail
  refine (join_any ls PA pc w3 (HP.out.below hb) (by have := HL1.out; omega) (by have := HFL.out; omega)).mono ?_
  rintro e w4 ⟨v4, rfl, h4, hn⟩
  replace h4 : OwnB w4 _ v4 ls.flatten := h4
  obtain ⟨F, hF⟩ : ∃ F, F = ls.flatten := ⟨_, rfl⟩
  rw [← hF] at h4
  have HF := Lib.hid hF
  have HFF : Hid (F.length ≤ 4096) := by show _ ≤ _; rw [hF]; exact HFL.out
  clear hF
  replace hb := hb.trans (hn.mono hb.size)
  clear hn
  go_wp2_with fail
  refine (rhmac_any key F _ v4 w4 (HK.out.below hb).arg h4.arg (by have := HKL.out; omega) (by have := HFF.out; omega)).mono ?_
  rintro e w5 ⟨rfl, hn⟩
  replace h4 := h4.below hn
  replace hb := hb.trans (hn.mono hb.size)
  clear hn
  have HML := Lib.hid (hmac_length key F)
  have heq := eq_key (hmac key F) (hmac key F) HML.out HML.out rfl
  have hN := Blk.new w5 (encs .u8 z32s) 25
  have hBK := hN.row (encs .u8 (hmac key F))
  have hn : Below w5.heap.size w5 ((w5.alloc (.cells (encs .u8 z32s) 25)).setRow w5.heap.size (encs .u8 (hmac key F))) := below_setRow ((Below.refl _ _).alloc (Nat.le_refl _) _) (Nat.le_refl _) _
  replace h4 := h4.below hn
  replace hb := hb.trans (hn.mono hb.size)
  clear hn
  obtain ⟨A4, c4, rfl, -, -⟩ := id h4.arg
  go_wp2_with (first | (refine wpList_store_row rfl 25 _ _ rfl _ _ rfl rfl 25 _ hN (by rw [encs_size, HML.out]; exact sizeKey0) (by rw [encs_size, encs_size, HML.out]; rfl) (encs_one _ _) ?_; change wpList _ _ _ _ _ ((w5.alloc (.cells (encs .u8 z32s) 25)).setRow w5.heap.size (encs .u8 (hmac key F))); generalize (w5.alloc (.cells (encs .u8 z32s) 25)).setRow w5.heap.size (encs .u8 (hmac key F)) = w6 at *; generalize w5.heap.size = gk at *) | fail)
  clear hN
  refine mix_start (fun w' => Below w6.heap.size w6 w') [1, 3, 6, 0, 2, 4, 5, 7, 8, 9, 10, 12, 11, 13, 14, 15] [0, 2, 4, 5, 11] [6, 12] [] (by kernel_rfl) (by kernel_rfl) (fun d _ _ _ _ h => by cases d <;> exact h) (Below.refl _ _).drew ?_
  have hS : Below w6.heap.size w6 w6.drew := (Below.refl _ _).drew
  have HB6 := Lib.hid hb
  have HBK := Lib.hid hBK
  have H4 := Lib.hid h4
  clear hb hBK h4
  generalize w6.drew = w7 at *
  have hs67 := hS.size
  repeat (refine mix_pure rfl rfl (fun K hK => ?_); go_simp; refine hK _ ?_; clear hK K)
  refine mix_load_row rfl rfl rfl rfl 25 _ rfl gk rfl _ 25 (0, 0) _ (fun w' hS => HBK.out.below hS HBK.out.lt) Try.underlying25 rfl (by rw [encs_size, HML.out]; exact sizeKey0) ?_
  refine mix_eff rfl rfl (fun K hK => ?_)
  go_simp
  have hn : Below w7.heap.size w7 (w7.alloc (.cells #[] 5)) := (Below.refl _ _).alloc (Nat.le_refl _) _
  have h8 : OwnB (w7.alloc (.cells #[] 5)) w7.heap.size (.slice (some ⟨w7.heap.size, 0, none⟩) 0 0) [] := OwnB.empty (Nat.le_refl _)
  have hs8 := hn.size
  replace hS := hS.trans (hn.mono hS.size)
  generalize w7.alloc (.cells #[] 5) = w8 at *
  generalize Value.slice (some ⟨w7.heap.size, 0, none⟩) 0 0 = v8 at *
  refine hK _ _ (fun _ _ => hS) ?_
  clear hK K hn
  refine mix_eff rfl rfl (fun K hK => ?_)
  refine step_app rfl _ _ rfl w7.heap.size _ _ rfl h8 _ key rfl ((HK.out.below HB6.out).below hS).arg (by have := HKL.out; simp; omega) hs8 ?_
  intro v9 w9 h9 hn
  rw [List.nil_append] at h9
  replace hS := hS.trans (hn.mono hs67)
  dsimp only [Act.put]
  refine hK _ _ (fun _ _ => hS) ?_
  clear hK K hn h8
  repeat (refine mix_pure rfl rfl (fun K hK => ?_); go_simp; refine hK _ ?_; clear hK K)
  refine mix_eff rfl rfl (fun K hK => ?_)
  go_simp
  refine (copied_any ls PA pc w9 ((HP.out.below HB6.out).below hS) (by have := HL1.out; omega) (by have := HFL.out; omega)).mono ?_
  rintro e wa ⟨Aa, ca, rfl, ha, hn⟩
  replace hS := hS.trans (hn.mono hS.size)
  replace h9 := h9.below hn
  refine hK _ _ (fun _ _ => hS) ?_
  clear hK K hn
  repeat (refine mix_pure rfl rfl (fun K hK => ?_); go_simp; refine hK _ ?_; clear hK K)
  refine mix_eff rfl rfl (fun K hK => ?_)
  go_simp
  refine (hmac_pv h9.arg (by have := HKL.out; omega) ha (by have := HL1.out; omega) (by have := HFL.out; omega)).mono ?_
  rintro e wb' ⟨rfl, hn⟩
  rw [← HF.out]
  replace hS := hS.trans (hn.mono hS.size)
  refine hK _ _ (fun _ _ => hS) ?_
  clear hK K hn h9 ha
  repeat (refine mix_pure rfl rfl (fun K hK => ?_); go_simp; refine hK _ ?_; clear hK K)
  refine mix_load_row rfl rfl rfl rfl 25 _ rfl gk rfl _ 25 (0, 0) _ (fun w' hS => HBK.out.below hS HBK.out.lt) Try.underlying25 rfl (by rw [encs_size, HML.out]; exact sizeKey0) ?_
  refine mix_eff rfl rfl (fun K hK => ?_)
  go_simp
  refine (extract_any ((HK.out.below HB6.out).below hS).arg (by have := HKL.out; omega) ((H4.out.below hS).row (by have := HFF.out; omega))).mono ?_
  rintro e wc ⟨rfl, hn⟩
  replace hS := hS.trans (hn.mono hS.size)
  refine hK _ _ (fun _ _ => hS) ?_
  clear hK K hn
  repeat (refine mix_pure rfl rfl (fun K hK => ?_); go_simp; refine hK _ ?_; clear hK K)
  refine mix_nil ?_
  go_wp2_with fail
  go_ret
  exact ⟨rfl, HB6.out.trans (hS.mono HB6.out.size)⟩
end Go.Proofs.Ytgcdjickkbiglaa
