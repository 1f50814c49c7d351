/- Spread to fewer bytes a key tells the beginning of what it tells of more. -/
import Derived.Test.YtgcdjickkbiglaaKdfV
import Derived.Test.YtgcdjickkbiglaaKdfWakes
import Derived.Test.YtgcdjickkbiglaaKdfExpand
namespace Go.Proofs.Ytgcdjickkbiglaa
open Go.RowKit
set_option linter.unusedVariables false
set_option linter.unusedSimpArgs false
attribute [local go_sem] max_imax min_imin
theorem imax_nat (a b : Nat) : imax (a : Int) (b : Int) = ((max a b : Nat) : Int) := by
  unfold imax
  split <;> omega
theorem RowArg.form {w : World} {v : Value} {l : List (BitVec 8)} {n : Nat} (h : RowArg w v l) (hn : l.length = n) : ∃ A c, v = .slice A n c ∧ n ≤ c ∧ n ≤ 140737488351232 ∧ Rd w .u8 A l := by
  obtain ⟨A, c, rfl, h1, h2, h3⟩ := h
  exact ⟨A, c, by rw [hn], by omega, by omega, h3⟩
set_option maxRecDepth 100000 in
set_option maxHeartbeats 8000000 in
theorem fewer_walk (key info : List (BitVec 8)) (a b : Int) (IA : Option Addr) (ic : Nat) (w : World) (hk : key.length = 32) (hR : Rd w .u8 IA info) (hic : info.length ≤ ic) (hic2 : ic ≤ 140737488351232) (ha0 : -9223372036854775808 ≤ a) (ha1 : a ≤ 9223372036854775807) (hb0 : -9223372036854775808 ≤ b) (hb1 : b ≤ 9223372036854775807) :
    Calls Try.prog 6 #[.agg (encs .u8 key), .slice IA info.length ic, .agg #[.int .i64 a, .int .i64 b]] w fun e w' => e = .returned (.bool true) ∧ Below w.heap.size w w' := by
  have hi : RowArg w (.slice IA info.length ic) info := ⟨IA, ic, rfl, hic, by omega, hR⟩
  have HI := Lib.hid hi
  have HK := Lib.hid hk
  clear hi hic hic2 hR
  have m0 : Blk ((w.alloc (.cells (encs .u8 key) 25)).alloc (.cells #[.int .i64 a, .int .i64 b] 40)) w.heap.size (encs .u8 key) 25 := (Blk.new _ _ _).alloc _
  have m1 : Blk ((w.alloc (.cells (encs .u8 key) 25)).alloc (.cells #[.int .i64 a, .int .i64 b] 40)) (w.heap.size + 1) #[.int .i64 a, .int .i64 b] 40 := Blk.new_at _ _ _ _ (by simp)
  have hb : Below w.heap.size w ((w.alloc (.cells (encs .u8 key) 25)).alloc (.cells #[.int .i64 a, .int .i64 b] 40)) := ((Below.refl _ _).alloc (Nat.le_refl _) _).alloc (by simp) _
  by_cases i1 : (4096 : Int) < (info.length : Int)
  · go_enter Try.func6, Try.ntmps6
    go_wp2_with fail
    refine (wakes_any _).mono ?_
    rintro e w1 ⟨rfl, hn⟩
    go_wp2_with fail
    go_ret
    exact ⟨rfl, hb.trans (hn.mono hb.size)⟩
  obtain ⟨q1, hq1⟩ : ∃ q : Nat, imax a 0 = (q : Int) := ⟨(imax a 0).toNat, by unfold imax; split <;> omega⟩
  obtain ⟨q2, hq2⟩ : ∃ q : Nat, imax b 0 = (q : Int) := ⟨(imax b 0).toNat, by unfold imax; split <;> omega⟩
  obtain ⟨N, hN⟩ : ∃ N : Nat, N = q1 % 1000 := ⟨_, rfl⟩
  obtain ⟨M, hM⟩ : ∃ N : Nat, N = q2 % 1000 := ⟨_, rfl⟩
  have hr1 : (q1 : Int).tmod 1000 = (N : Int) := by rw [Int.tmod_eq_emod_of_nonneg (Int.natCast_nonneg _)]; omega
  have hr2 : (q2 : Int).tmod 1000 = (M : Int) := by rw [Int.tmod_eq_emod_of_nonneg (Int.natCast_nonneg _)]; omega
  obtain ⟨p, hp⟩ : ∃ p, p = min N M := ⟨_, rfl⟩
  obtain ⟨q, hq⟩ : ∃ p, p = max N M := ⟨_, rfl⟩
  have hmin : imin (N : Int) (M : Int) = (p : Int) := by rw [imin_nat, hp]
  have hmax : imax (N : Int) (M : Int) = (q : Int) := by rw [imax_nat, hq]
  have hpq : p ≤ q := by omega
  have hq1000 : q < 1000 := by omega
  clear hN hM hp hq ha0 ha1 hb0 hb1
  have HIL : Hid (info.length ≤ 1048576) := by show _ ≤ _; omega
  go_enter Try.func6, Try.ntmps6
  go_wp2_with fail
  refine (wakes_any _).mono ?_
  rintro e w1 ⟨rfl, hn⟩
  replace m0 := m0.below hn m0.lt
  replace m1 := m1.below hn m1.lt
  replace hb := hb.trans (hn.mono hb.size)
  clear hn
  have c0 : w1.cell? ⟨w.heap.size + 1, 0, none⟩ = some (.int .i64 a) := m1.cell 0
  have c1 : w1.cell? ⟨w.heap.size + 1, 1, none⟩ = some (.int .i64 b) := m1.cell 1
  go_wp2_with fail
  refine mix_start (fun w' => Below w1.heap.size w1 w') (List.range 10) [] [1, 5] [] (by kernel_rfl) (by kernel_rfl) (fun d _ _ _ _ h => by cases d <;> exact h) ?_ ?_
  · exact (Below.refl _ _).drew
  repeat (refine mix_pure rfl rfl (fun K hK => ?_); go_simp; refine hK _ ?_; clear hK K)
  refine mix_read (.int .i64 a) rfl rfl rfl rfl (fun w' hS => ?_) ?_
  · have hc' := below_cell hS c0
    go_simp
  repeat (refine mix_pure rfl rfl (fun K hK => ?_); go_simp; refine hK _ ?_; clear hK K)
  refine mix_read (.int .i64 b) rfl rfl rfl rfl (fun w' hS => ?_) ?_
  · have hc' := below_cell hS c1
    go_simp
  repeat (refine mix_pure rfl rfl (fun K hK => ?_); go_simp; refine hK _ ?_; clear hK K)
  refine mix_nil ?_
  replace m0 := m0.drew
  replace hb := hb.drew
  generalize w1.drew = w2 at *
  have HEA := Lib.hid (fun wx h => expand_any key info _ p wx HK.out (h : RowArg wx (.slice IA info.length ic) info) HIL.out (by omega))
  have HEB := Lib.hid (fun wx h => expand_any key info _ q wx HK.out (h : RowArg wx (.slice IA info.length ic) info) HIL.out (by omega))
  have HPL := Lib.hid (expand_length key info p)
  have HQL := Lib.hid (expand_length key info q)
  have HT := Lib.hid (expand_take key info p q hpq)
  clear m1 c0 c1 hq1 hq2
  go_wp2_with (first | (refine wpList_load_row rfl 25 _ rfl w.heap.size rfl 25 _ (0, 0) _ m0 Try.underlying25 rfl (by rw [encs_size, HK.out]; exact sizeKey0) ?_) | fail)
  refine (HEA.out w2 (HI.out.below hb)).mono ?_
  rintro e w3 ⟨v3, rfl, h3, -, hn⟩
  replace m0 := m0.below hn m0.lt
  replace hb := hb.trans (hn.mono hb.size)
  clear hn
  go_wp2_with (first | (refine wpList_load_row rfl 25 _ rfl w.heap.size rfl 25 _ (0, 0) _ m0 Try.underlying25 rfl (by rw [encs_size, HK.out]; exact sizeKey0) ?_) | fail)
  refine (HEB.out w3 (HI.out.below hb)).mono ?_
  rintro e w4 ⟨v4, rfl, h4, -, hn⟩
  replace h3 := h3.below hn
  replace hb := hb.trans (hn.mono hb.size)
  clear hn
  obtain ⟨A3, c3, rfl, hc3, hc3m, hR3⟩ := h3.form HPL.out
  obtain ⟨A4, c4, rfl, hc4, hc4m, hR4⟩ := h4.form HQL.out
  have hsl := fun wx => run_slice_to (P := Try.prog) bytesT A4 q c4 (p : Int) .i64 (by omega) (by omega) wx
  rw [cutA_zero, Int.toNat_natCast] at hsl
  have a3 : Arg w4 (.slice A3 p c3) (expand key info p) := arg_of hR3 HPL.out hc3
  have a4 : Arg w4 (.slice A4 p c4) ((expand key info q).take p) := arg_of (rd_take hR4 p) (by rw [List.length_take, HQL.out]; omega) (by omega)
  rw [HT.out] at a4
  have HEQ := Lib.hid (equal_v a3 a4 (by rw [HPL.out]; omega))
  clear a3 a4 hR3 hR4 h3 h4 m0 HEA HEB
  go_wp2_with fail
  refine HEQ.out.mono ?_
  rintro e w5 ⟨rfl, hn⟩
  go_wp2_with fail
  go_ret
  exact ⟨by simp, hb.trans (hn.mono hb.size)⟩
end Go.Proofs.Ytgcdjickkbiglaa
