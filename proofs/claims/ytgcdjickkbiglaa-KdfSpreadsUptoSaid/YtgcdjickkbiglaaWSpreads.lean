/- A key, spread to any count of bytes (printed by genspreads.py). -/
import Derived.Test.YtgcdjickkbiglaaKdfRefX
import Derived.Test.YtgcdjickkbiglaaWCodes
namespace Go.Proofs.Ytgcdjickkbiglaa
open Go.RowKit
set_option linter.unusedVariables false
set_option linter.unusedSimpArgs false
set_option maxRecDepth 100000 in
set_option maxHeartbeats 8000000 in
theorem spreads_walk (key info : List (BitVec 8)) (n : Int) (IA : Option Addr) (ic : Nat) (w : World) (hk : key.length = 32) (hI : RowArg w (.slice IA info.length ic) info) (hn0 : -9223372036854775808 ≤ n) (hn1 : n ≤ 9223372036854775807) :
    Calls Try.prog 5 #[.agg (encs .u8 key), .slice IA info.length ic, .int .i64 n] w fun e w' => e = .returned (.bool true) ∧ Below w.heap.size w w' := by
  have HI := Lib.hid hI
  have HK := Lib.hid hk
  clear hI hk
  have m0 : Blk (w.alloc (.cells (encs .u8 key) 25)) w.heap.size (encs .u8 key) 25 := Blk.new _ _ _
  have hb : Below w.heap.size w (w.alloc (.cells (encs .u8 key) 25)) := (Below.refl _ _).alloc (Nat.le_refl _) _
  go_enter Try.func5, Try.ntmps5
  go_wp2_with fail
  refine (wakes_any _).mono ?_
  rintro e w1 ⟨rfl, hn⟩
  replace m0 := m0.below hn m0.lt
  replace hb := hb.trans (hn.mono hb.size)
  clear hn
  have hn : Below w1.heap.size w1 (w1.alloc (.cells #[.slice IA info.length ic] 22)) := (Below.refl _ _).alloc (Nat.le_refl _) _
  have hp1 := partsR1 (Blk.new w1 #[.slice IA info.length ic] 22) ((HI.out.below hb).below hn)
  have HS := Lib.hid (small_pv (pc := 1) hp1 (by simp))
  replace m0 := m0.below hn m0.lt
  replace hb := hb.trans (hn.mono hb.size)
  clear hp1 hn
  go_wp2_with fail
  refine HS.out.mono ?_
  rintro e w2 ⟨hs, hn⟩
  replace m0 := m0.below hn m0.lt
  replace hb := hb.trans (hn.mono hb.size)
  clear hn HS
  rcases hs with ⟨rfl, hfl, -⟩ | rfl
  case inr =>
    go_wp2_with fail
    go_ret
    exact ⟨rfl, hb⟩
  have HIL : Hid (info.length ≤ 4096) := by show _ ≤ _; simpa using hfl
  clear hfl
  go_wp2_with fail
  refine mix_start (fun w' => Below w2.heap.size w2 w') [0, 2, 4, 1, 3, 5, 6, 7, 8, 9, 10] [1, 3, 5] [0] [] (by kernel_rfl) (by kernel_rfl) (fun d _ _ _ _ h => by cases d <;> exact h) (Below.refl _ _).drew ?_
  have hS : Below w2.heap.size w2 w2.drew := (Below.refl _ _).drew
  have HB2 := Lib.hid (And.intro m0 hb)
  have hm2 := m0.lt
  clear m0 hb
  generalize w2.drew = w7 at *
  have hs67 := hS.size
  refine mix_load_row rfl rfl rfl rfl 25 _ rfl w.heap.size rfl _ 25 (0, 0) _ (fun w' hS => HB2.out.1.below hS HB2.out.1.lt) Try.underlying25 rfl (by rw [encs_size, HK.out]; exact sizeKey0) ?_
  repeat (refine mix_pure rfl rfl (fun K hK => ?_); go_simp; refine hK _ ?_; clear hK K)
  refine mix_eff rfl rfl (fun K hK => ?_)
  go_simp
  have hn : Below w7.heap.size w7 (w7.alloc (.cells #[] 5)) := (Below.refl _ _).alloc (Nat.le_refl _) _
  have h8 : OwnB (w7.alloc (.cells #[] 5)) w7.heap.size (.slice (some ⟨w7.heap.size, 0, none⟩) 0 0) [] := OwnB.empty (Nat.le_refl _)
  have hs8 := hn.size
  replace hS := hS.trans (hn.mono hS.size)
  generalize w7.alloc (.cells #[] 5) = w8 at *
  generalize Value.slice (some ⟨w7.heap.size, 0, none⟩) 0 0 = v8 at *
  refine hK _ _ (fun _ _ => hS) ?_
  clear hK K hn
  refine mix_eff rfl rfl (fun K hK => ?_)
  refine step_app rfl _ _ rfl w7.heap.size _ _ rfl h8 _ info rfl ((HI.out.below HB2.out.2).below hS).arg (by have := HIL.out; simp; omega) hs8 ?_
  intro v9 w9 h9 hn
  rw [List.nil_append] at h9
  replace hS := hS.trans (hn.mono hs67)
  dsimp only [Act.put]
  refine hK _ _ (fun _ _ => hS) ?_
  clear hK K hn h8
  repeat (refine mix_pure rfl rfl (fun K hK => ?_); go_simp; refine hK _ ?_; clear hK K)
  refine mix_eff rfl rfl (fun K hK => ?_)
  go_simp
  by_cases hbad : n < 0 ∨ 8160 < n
  · refine (expand_refused key v9 n hbad w9).mono ?_
    rintro e wa ⟨rfl, hn⟩
    replace hS := hS.trans (hn.mono hS.size)
    refine hK _ _ (fun _ _ => hS) ?_
    clear hK K hn
    repeat (refine mix_pure rfl rfl (fun K hK => ?_); go_simp; refine hK _ ?_; clear hK K)
    refine mix_nil ?_
    have hb := HB2.out.2.trans (hS.mono HB2.out.2.size)
    by_cases i1 : n < 0
    · go_wp2_with fail
      go_ret
      exact ⟨rfl, hb⟩
    · have i2 : 8160 < n := by omega
      go_wp2_with fail
      go_ret
      exact ⟨rfl, hb⟩
  · obtain ⟨m, rfl⟩ : ∃ m : Nat, n = (m : Int) := ⟨n.toNat, by omega⟩
    have i1 : ¬ (m : Int) < 0 := by omega
    have i2 : ¬ 8160 < (m : Int) := by omega
    have hm : m ≤ 8160 := by omega
    refine (expand_any key info v9 m w9 HK.out (h9.row (by have := HIL.out; omega)) (by have := HIL.out; omega) hm).mono ?_
    rintro e wa ⟨va, rfl, ha, -, hn⟩
    replace hS := hS.trans (hn.mono hS.size)
    refine hK _ _ (fun _ _ => hS) ?_
    clear hK K hn h9 hbad
    repeat (refine mix_pure rfl rfl (fun K hK => ?_); go_simp; refine hK _ ?_; clear hK K)
    refine mix_nil ?_
    have hb := HB2.out.2.trans (hS.mono HB2.out.2.size)
    have m0 := HB2.out.1.below hS hm2
    have HX := Lib.hid (rexpand_any key info _ m wa HK.out (HI.out.below hb).arg (by have := HIL.out; omega) hm)
    go_wp2_with (first | (refine wpList_load_row rfl 25 _ rfl w.heap.size rfl 25 _ (0, 0) _ m0 Try.underlying25 rfl (by rw [encs_size, HK.out]; exact sizeKey0) ?_) | (refine wpList_load_part_guarded rfl 25 _ rfl w.heap.size 0 rfl 25 (encs .u8 key) (0, 0) _ (encL .u8 key) m0 (fun j v h => by rw [Nat.zero_add, ← encs_toList] at *; simpa using h) Try.underlying25 rfl (by rw [encL_length, HK.out]; exact sizeKey0) ?_; rw [encL_toArray]) | fail)
    refine HX.out.mono ?_
    rintro e wb' ⟨vb, rfl, hvb, hn⟩
    replace hvb : OwnB wb' _ vb (expand key info m) := hvb
    go_wp2_with fail
    refine (same_v (ha.below hn).arg hvb.arg (by rw [expand_length]; omega)).mono ?_
    rintro e wc ⟨rfl, hn2⟩
    rw [beq_self_eq_true]
    go_wp2_with fail
    go_ret
    exact ⟨rfl, hb.trans ((hn.trans (hn2.mono hn.size)).mono hb.size)⟩
end Go.Proofs.Ytgcdjickkbiglaa
