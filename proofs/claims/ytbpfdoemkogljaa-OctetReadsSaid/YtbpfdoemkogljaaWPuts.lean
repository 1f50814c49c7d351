/- The walk of OctetPuts. -/
import Derived.Test.YtbpfdoemkogljaaWakes
import Derived.Test.YtbpfdoemkogljaaOctV
namespace Go.Proofs.Ytbpfdoemkogljaa
open Go.RowKit
theorem low_trunc (x : BitVec 64) (m n : Nat) (h : 8 * n ≤ m) (h64 : m ≤ 64) : low ((x.setWidth m).setWidth 64) n = low x n := by
  induction n with
  | zero => rfl
  | succ n ih =>
    rw [low_succ, low_succ, ih (by omega)]
    congr 2
    apply BitVec.eq_of_getLsbD_eq
    intro i hi
    have h1 : 8 * n + i < 64 := by omega
    have h2 : 8 * n + i < m := by omega
    simp [hi, h1, h2]
theorem own_low {w : World} {base : Nat} {v : Value} {x : BitVec 64} {n : Nat} (h : w.ownsRow base 5 1 v (low x n).length (encL .u8 (low x n))) : OwnB w base v (low x n) := h
attribute [local go_sem] conv64_16 conv64_32
set_option maxHeartbeats 4000000 in
theorem puts_walk (b : List (BitVec 8)) (v : Value) (x : BitVec 64) (w : World) (hA : Arg w v b) (hlen : b.length ≤ 140737488351232) :
    Calls Try.prog 3 #[v, .int .u64 (wb x)] w fun e w' => e = .returned (.bool true) ∧ Below w.heap.size w w' := by
  have l2 : (b ++ low x 2).length = b.length + 2 := by simp [low_length]
  have l4 : (b ++ low x 4).length = b.length + 4 := by simp [low_length]
  have l8 : (b ++ low x 8).length = b.length + 8 := by simp [low_length]
  have L2 := Lib.hid l2
  have L4 := Lib.hid l4
  have L8 := Lib.hid l8
  clear l2 l4 l8
  go_enter Try.func3, Try.ntmps3
  go_wp2_with fail
  refine (wakes_any w).mono ?_
  rintro e w1 ⟨rfl, hb⟩
  go_wp2_with fail
  refine ((both_v (hA.below hb) (Arg.nil _) (by simp; omega))).mono ?_
  rintro e w2 ⟨c, rfl, hc, hb2⟩
  replace hc : OwnB w2 _ c (b ++ []) := hc
  replace hb := hb.trans (hb2.mono hb.size)
  clear hb2
  rw [List.append_nil] at hc
  go_wp2_with fail
  refine ((put16_v (hA.below hb) (x.setWidth 16) (by omega))).mono ?_
  rintro e w3 ⟨one, rfl, h1, hb2⟩
  replace h1 : OwnB w3 _ one (b ++ low ((x.setWidth 16).setWidth 64) 2) := h1
  replace hc := hc.below hb2
  replace hb := hb.trans (hb2.mono hb.size)
  clear hb2
  rw [low_trunc x 16 2 (by omega) (by omega)] at h1
  go_wp2_with fail
  refine ((put32_v (hA.below hb) (x.setWidth 32) (by omega))).mono ?_
  rintro e w4 ⟨two, rfl, h2, hb2⟩
  replace h2 : OwnB w4 _ two (b ++ low ((x.setWidth 32).setWidth 64) 4) := h2
  replace hc := hc.below hb2
  replace h1 := h1.below hb2
  replace hb := hb.trans (hb2.mono hb.size)
  clear hb2
  rw [low_trunc x 32 4 (by omega) (by omega)] at h2
  go_wp2_with fail
  refine ((put64_v (hA.below hb) x (by omega))).mono ?_
  rintro e w5 ⟨three, rfl, h3, hb2⟩
  replace h3 : OwnB w5 _ three (b ++ low x 8) := h3
  replace hc := hc.below hb2
  replace h1 := h1.below hb2
  replace h2 := h2.below hb2
  replace hb := hb.trans (hb2.mono hb.size)
  clear hb2
  go_wp2_with fail
  refine ((rlow_any x 2 _ (by omega))).mono ?_
  rintro e w6 ⟨p, rfl, hp, hb2⟩
  replace hp : OwnB w6 _ p (low x 2) := hp
  replace hc := hc.below hb2
  replace h1 := h1.below hb2
  replace h2 := h2.below hb2
  replace h3 := h3.below hb2
  replace hb := hb.trans (hb2.mono hb.size)
  clear hb2
  go_wp2_with fail
  refine ((both_v hc.arg hp.arg (by rw [low_length]; omega))).mono ?_
  rintro e w7 ⟨q, rfl, hq, hb2⟩
  replace hq : OwnB w7 _ q (b ++ low x 2) := hq
  replace hc := hc.below hb2
  replace h1 := h1.below hb2
  replace h2 := h2.below hb2
  replace h3 := h3.below hb2
  replace hb := hb.trans (hb2.mono hb.size)
  clear hb2
  go_wp2_with fail
  refine ((same_v h1.arg hq.arg (by rw [L2.out]; omega))).mono ?_
  rintro e w8 ⟨rfl, hb2⟩
  replace hc := hc.below hb2
  replace h2 := h2.below hb2
  replace h3 := h3.below hb2
  replace hb := hb.trans (hb2.mono hb.size)
  clear hb2
  rw [beq_self_eq_true]
  go_wp2_with fail
  refine ((rlow_any x 4 _ (by omega))).mono ?_
  rintro e w9 ⟨p4, rfl, hp, hb2⟩
  replace hp : OwnB w9 _ p4 (low x 4) := hp
  replace hc := hc.below hb2
  replace h2 := h2.below hb2
  replace h3 := h3.below hb2
  replace hb := hb.trans (hb2.mono hb.size)
  clear hb2
  go_wp2_with fail
  refine ((both_v hc.arg hp.arg (by rw [low_length]; omega))).mono ?_
  rintro e w10 ⟨q4, rfl, hq, hb2⟩
  replace hq : OwnB w10 _ q4 (b ++ low x 4) := hq
  replace hc := hc.below hb2
  replace h2 := h2.below hb2
  replace h3 := h3.below hb2
  replace hb := hb.trans (hb2.mono hb.size)
  clear hb2
  go_wp2_with fail
  refine ((same_v h2.arg hq.arg (by rw [L4.out]; omega))).mono ?_
  rintro e w11 ⟨rfl, hb2⟩
  replace hc := hc.below hb2
  replace h3 := h3.below hb2
  replace hb := hb.trans (hb2.mono hb.size)
  clear hb2
  rw [beq_self_eq_true]
  go_wp2_with fail
  refine ((rlow_any x 8 _ (by omega))).mono ?_
  rintro e w12 ⟨p8, rfl, hp, hb2⟩
  replace hp : OwnB w12 _ p8 (low x 8) := hp
  replace hc := hc.below hb2
  replace h3 := h3.below hb2
  replace hb := hb.trans (hb2.mono hb.size)
  clear hb2
  go_wp2_with fail
  refine ((both_v hc.arg hp.arg (by rw [low_length]; omega))).mono ?_
  rintro e w13 ⟨q8, rfl, hq, hb2⟩
  replace hq : OwnB w13 _ q8 (b ++ low x 8) := hq
  replace hc := hc.below hb2
  replace h3 := h3.below hb2
  replace hb := hb.trans (hb2.mono hb.size)
  clear hb2
  go_wp2_with fail
  refine ((same_v h3.arg hq.arg (by rw [L8.out]; omega))).mono ?_
  rintro e w14 ⟨rfl, hb2⟩
  replace hc := hc.below hb2
  replace hb := hb.trans (hb2.mono hb.size)
  clear hb2
  rw [beq_self_eq_true]
  go_wp2_with fail
  refine ((same_v (hA.below hb) hc.arg (by omega))).mono ?_
  rintro e w15 ⟨rfl, hb2⟩
  replace hb := hb.trans (hb2.mono hb.size)
  clear hb2
  rw [beq_self_eq_true]
  go_wp2_with fail
  go_ret
  exact ⟨rfl, hb⟩
end Go.Proofs.Ytbpfdoemkogljaa
