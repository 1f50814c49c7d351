/- dice: Below at one. -/
import Derived.Test.YtfamcgmgcchppaaDiNew
import Derived.Test.YtfamcgmgcchppaaOctGet
import Derived.WalkMore
namespace Go.Proofs.Ytfamcgmgcchppaa
open Go.RowKit
set_option linter.unusedVariables false
set_option linter.unusedSimpArgs false
theorem num_step (c : BitVec 8) (y : BitVec 64) (k : Nat) (hy : y.toNat < 2 ^ k) : (c.setWidth 64 ||| y <<< 8).toNat < 2 ^ (k + 8) := by
  rw [BitVec.toNat_or]
  refine Nat.or_lt_two_pow ?_ ?_
  · rw [BitVec.toNat_setWidth]
    exact Nat.lt_of_le_of_lt (Nat.mod_le _ _) (Nat.lt_of_lt_of_le c.isLt (Nat.pow_le_pow_right (by omega) (by omega : 8 ≤ k + 8)))
  · rw [BitVec.toNat_shiftLeft, Nat.shiftLeft_eq, Nat.pow_add]
    exact Nat.lt_of_le_of_lt (Nat.mod_le _ _) (Nat.mul_lt_mul_of_pos_right hy (by decide))
theorem num_small (l : List (BitVec 8)) (h : l.length = 4) : (num l).toNat < 2 ^ 32 := by
  rcases l with _ | ⟨a, _ | ⟨b, _ | ⟨c, _ | ⟨d, _ | ⟨e, l⟩⟩⟩⟩⟩
  · simp at h
  · simp at h
  · simp at h
  · simp at h
  · exact num_step a _ 24 (num_step b _ 16 (num_step c _ 8 (num_step d _ 0 (by decide))))
  · simp at h
theorem get64_small (l : List (BitVec 8)) (h : l.length = 4) : wb (get64 l) < 4294967296 := by
  have := num_small l h
  have e : get64 l = num l := by rw [get64, List.take_of_length_le (by omega)]
  rw [e]
  show ((num l).toNat : Int) < 4294967296
  omega
set_option maxRecDepth 100000 in
set_option maxHeartbeats 4000000 in
theorem below_one (g : Nat) (key : List (BitVec 8)) (t : Nat) (w : World) (h : DiceR w g key t) (ht : t ≤ 1099511627776) :
    Calls Try.prog 26 #[.pointer (some ⟨g, 0, none⟩), .int .i64 1] w fun e w' => e = .returned (.int .i64 0) ∧ DiceR w' g key (t + 4) ∧ Upd g w w' := by
  go_enter Try.func26, Try.ntmps26
  go_wp2_with fail
  go_step3
  go_wp2_with fail
  go_step3
  go_wp2_with fail
  refine (next_any g key t 4 w h (by omega) ht).mono ?_
  rintro e w1 ⟨v, rfl, ho, hd, hu⟩
  have hl : Hid ((strm key t 4).length = 4) := strm_length key t 4
  obtain ⟨A, cap, rfl, hc, hr⟩ := ho.arg
  rw [hl.out] at hc ⊢
  go_wp2_with fail
  have hg := get64_any (strm key t 4) A cap w1 hr (by rw [hl.out]; exact hc)
  rw [hl.out] at hg
  refine hg.mono ?_
  rintro e w2 ⟨rfl, rfl⟩
  clear hg
  have hx := get64_small (strm key t 4) hl.out
  have hx0 : 0 ≤ wb (get64 (strm key t 4)) := Int.natCast_nonneg _
  generalize wb (get64 (strm key t 4)) = x at *
  have hx1 : ¬ 4294967296 ≤ x := by omega
  clear hx
  go_wp2_with fail
  rw [Exit.noGoto_ret]
  go_ret
  exact ⟨rfl, hd, hu⟩
theorem dbelow_one (g : Nat) (key : List (BitVec 8)) (t : Nat) (w : World) (h : DiceR w g key t) (ht : t ≤ 1099511627776) :
    Calls Try.prog 12 #[.pointer (some ⟨g, 0, none⟩), .int .i64 1] w fun e w' => e = .returned (.tuple #[.int .i64 0, .int .i64 0]) ∧ DiceR w' g key (t + 4) ∧ Upd g w w' := by
  go_enter Try.func12, Try.ntmps12
  go_wp2_with fail
  refine (below_one g key t w h ht).mono ?_
  rintro e w1 ⟨rfl, r⟩
  go_wp2_with fail
  refine bodyPost_ret (results_tmp2 rfl _ _ _) rfl ?_
  exact ⟨rfl, r⟩
theorem key0 (w : World) : (Instr.build 41 #[]).run Try.prog w = .ok (.agg (encs .u8 z32d)) w := by kernel_rfl
set_option maxRecDepth 100000 in
set_option maxHeartbeats 4000000 in
theorem dkey_nil (w : World) : Calls Try.prog 22 #[.pointer none] w fun e w' => e = .returned (.tuple #[.agg (encs .u8 z32d), .int .i64 1]) ∧ Below w.heap.size w w' := by
  have hb0 : Below w.heap.size w (w.alloc (.cells #[Value.int .u8 0, Value.int .u8 0, Value.int .u8 0, Value.int .u8 0, Value.int .u8 0, Value.int .u8 0, Value.int .u8 0, Value.int .u8 0, Value.int .u8 0, Value.int .u8 0, Value.int .u8 0, Value.int .u8 0, Value.int .u8 0, Value.int .u8 0, Value.int .u8 0, Value.int .u8 0, Value.int .u8 0, Value.int .u8 0, Value.int .u8 0, Value.int .u8 0, Value.int .u8 0, Value.int .u8 0, Value.int .u8 0, Value.int .u8 0, Value.int .u8 0, Value.int .u8 0, Value.int .u8 0, Value.int .u8 0, Value.int .u8 0, Value.int .u8 0, Value.int .u8 0, Value.int .u8 0] 41)) := (Below.refl _ _).alloc (Nat.le_refl _) _
  have hB : Blk (w.alloc (.cells #[Value.int .u8 0, Value.int .u8 0, Value.int .u8 0, Value.int .u8 0, Value.int .u8 0, Value.int .u8 0, Value.int .u8 0, Value.int .u8 0, Value.int .u8 0, Value.int .u8 0, Value.int .u8 0, Value.int .u8 0, Value.int .u8 0, Value.int .u8 0, Value.int .u8 0, Value.int .u8 0, Value.int .u8 0, Value.int .u8 0, Value.int .u8 0, Value.int .u8 0, Value.int .u8 0, Value.int .u8 0, Value.int .u8 0, Value.int .u8 0, Value.int .u8 0, Value.int .u8 0, Value.int .u8 0, Value.int .u8 0, Value.int .u8 0, Value.int .u8 0, Value.int .u8 0, Value.int .u8 0] 41)) w.heap.size (encs .u8 z32d) 41 := Blk.new _ _ _
  obtain ⟨g, hg⟩ : ∃ g, g = w.heap.size := ⟨_, rfl⟩
  rw [← hg] at hB hb0 ⊢
  have HG := Lib.hid hg
  go_enter Try.func22, Try.ntmps22
  iterate 10 go_step
  rw [← hg]
  clear hg
  generalize w.alloc (.cells #[Value.int .u8 0, Value.int .u8 0, Value.int .u8 0, Value.int .u8 0, Value.int .u8 0, Value.int .u8 0, Value.int .u8 0, Value.int .u8 0, Value.int .u8 0, Value.int .u8 0, Value.int .u8 0, Value.int .u8 0, Value.int .u8 0, Value.int .u8 0, Value.int .u8 0, Value.int .u8 0, Value.int .u8 0, Value.int .u8 0, Value.int .u8 0, Value.int .u8 0, Value.int .u8 0, Value.int .u8 0, Value.int .u8 0, Value.int .u8 0, Value.int .u8 0, Value.int .u8 0, Value.int .u8 0, Value.int .u8 0, Value.int .u8 0, Value.int .u8 0, Value.int .u8 0, Value.int .u8 0] 41) = w1 at *
  go_wp2_with (first | (refine wpList_build rfl 41 _ rfl (.agg (encs .u8 z32d)) _ key0 (by simp) ?_) | (refine wpList_store_row rfl 41 _ _ rfl g _ rfl rfl 41 _ hB (by rw [encs_size]; exact sizeKeyD) rfl (encs_one _ _) ?_) | fail)
  refine bodyPost_ret (v := .tuple #[.agg (encs .u8 z32d), .int .i64 1]) (results_cell_tmp rfl _ _ g _ (encs .u8 z32d) _ _ _ rfl rfl (hB.row (encs .u8 z32d)) Try.underlying41 rfl (by rw [encs_size]; exact sizeKeyD)) rfl ?_
  exact ⟨rfl, below_setRow hb0 (Nat.le_refl _) _⟩
set_option maxRecDepth 100000 in
set_option maxHeartbeats 4000000 in
theorem wakes_any (w : World) : Calls Try.prog 9 #[] w fun e w' => e = .returned (.bool true) ∧ Below w.heap.size w w' := by
  go_enter Try.func9, Try.ntmps9
  go_wp2_with fail
  refine (dnew_any [] none 0 w Rd.nil (Nat.le_refl _) (by simp)).mono ?_
  rintro e w1 ⟨g, rfl, hg, hd, hb⟩
  go_wp2_with fail
  refine (dbelow_one g _ 0 w1 hd (by omega)).mono ?_
  rintro e w2 ⟨rfl, hd2, hu⟩
  have hb2 : Below w.heap.size w w2 := Upd.below hb hu hg hb.size
  go_wp2_with fail
  refine (dtaken_any g _ _ w2 hd2).mono ?_
  rintro e w3 ⟨rfl, rfl⟩
  go_wp2_with fail
  go_ret
  exact ⟨rfl, hb2⟩
end Go.Proofs.Ytfamcgmgcchppaa
