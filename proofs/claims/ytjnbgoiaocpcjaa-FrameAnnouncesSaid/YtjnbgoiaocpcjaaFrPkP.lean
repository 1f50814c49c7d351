/- A packet's bytes, by the program and by the reference. -/
import Derived.Test.YtjnbgoiaocpcjaaFrPk
import Derived.Test.YtjnbgoiaocpcjaaFrRef
namespace Go.Proofs.Ytjnbgoiaocpcjaa
open Go.RowKit
set_option linter.unusedVariables false
set_option linter.unusedSimpArgs false
theorem wrapByte (i : Int) : IntKind.u8.wrap i = wb (BitVec.ofInt 8 i) := by
  rw [IntKind.wrap_u8]
  unfold wb
  rw [BitVec.toNat_ofInt]
  omega
def packB (kind : BitVec 8) (c s : Int) (r : BitVec 64) (b : List (BitVec 8)) : List (BitVec 8) := [kind, BitVec.ofInt 8 c, BitVec.ofInt 8 s] ++ low r 8 ++ b
theorem packB_length (kind : BitVec 8) (c s : Int) (r : BitVec 64) (b : List (BitVec 8)) : (packB kind c s r b).length = 11 + b.length := by simp [packB, low_length]; omega
attribute [local go_sem] wrapByte
set_option maxHeartbeats 2000000 in
theorem put_any3 (kind : BitVec 8) (c s : Int) (r : BitVec 64) (v : Value) (b : List (BitVec 8)) (w : World) (hb : Arg w v b) (hl : b.length ≤ 1048576) :
    Calls Try.prog 61 #[.int .u8 (wb kind), .int .i64 c, .int .i64 s, .int .u64 (wb r), v] w (RetOwn w 5 .u8 (packB kind c s r b)) := by
  have HB := Lib.hid hb
  obtain ⟨A, cap, rfl, -, -⟩ := hb
  have hn0 : Below w.heap.size w (w.alloc (.cells #[.int .u8 (wb kind), .int .u8 (wb (BitVec.ofInt 8 c)), .int .u8 (wb (BitVec.ofInt 8 s))] 5)) := (Below.refl _ _).alloc (Nat.le_refl _) _
  have a0 : Arg (w.alloc (.cells #[.int .u8 (wb kind), .int .u8 (wb (BitVec.ofInt 8 c)), .int .u8 (wb (BitVec.ofInt 8 s))] 5)) (.slice (some ⟨w.heap.size, 0, none⟩) 3 3) [kind, BitVec.ofInt 8 c, BitVec.ofInt 8 s] := arg_of (Blk.new w (encs .u8 [kind, BitVec.ofInt 8 c, BitVec.ofInt 8 s]) 5).rd rfl (Nat.le_refl _)
  have HP := Lib.hid (put64_v a0 r (by simp))
  clear a0
  go_enter Try.func61, Try.ntmps61
  go_wp2_with fail
  refine HP.out.mono ?_
  rintro e w1 ⟨v1, rfl, h1, hn⟩
  replace h1 : OwnB w1 _ v1 ([kind, BitVec.ofInt 8 c, BitVec.ofInt 8 s] ++ low r 8) := h1
  have hb1 := hn0.trans (hn.mono hn0.size)
  have hs := hn.size
  have hs0 := hn0.size
  clear hn hn0
  go_wp2_with (first | (at_builtin; refine wpList_app rfl _ _ rfl _ _ _ rfl h1 _ b rfl (HB.out.below hb1) (by simp [low_length]; omega) hs ?_; intro v2 w2 h2 hn2) | fail)
  go_ret
  exact ⟨_, rfl, h2.base hs0, hb1.trans (hn2.mono hs0)⟩
theorem args2p {w : World} {g : Nat} {v0 v1 : Value} {l0 l1 : List (BitVec 8)} {T : TypeId} (hB : Blk w g #[v0, v1] T) (h0 : Arg w v0 l0) (h1 : Arg w v1 l1) : Args w (some ⟨g, 0, none⟩) [l0, l1] := fun i hi => by
  have : i = 0 ∨ i = 1 := by simp at hi; omega
  rcases this with rfl | rfl
  · exact ⟨g, 0, v0, rfl, hB.cell 0, h0⟩
  · exact ⟨g, 0, v1, rfl, hB.cell 1, h1⟩
set_option maxHeartbeats 2000000 in
theorem packet_any (kind : BitVec 8) (c s : Int) (r : BitVec 64) (v : Value) (b : List (BitVec 8)) (w : World) (hb : Arg w v b) (hl : b.length ≤ 1048576) :
    Calls Try.prog 33 #[.int .u8 (wb kind), .int .i64 c, .int .i64 s, .int .u64 (wb r), v] w (RetOwn w 5 .u8 (packB kind c s r b)) := by
  have HB := Lib.hid hb
  obtain ⟨A, cap, rfl, -, -⟩ := hb
  have hn0 : Below w.heap.size w (w.alloc (.cells #[.int .u8 (wb kind), .int .u8 (wb (BitVec.ofInt 8 c)), .int .u8 (wb (BitVec.ofInt 8 s))] 5)) := (Below.refl _ _).alloc (Nat.le_refl _) _
  have a0 : Arg (w.alloc (.cells #[.int .u8 (wb kind), .int .u8 (wb (BitVec.ofInt 8 c)), .int .u8 (wb (BitVec.ofInt 8 s))] 5)) (.slice (some ⟨w.heap.size, 0, none⟩) 3 3) [kind, BitVec.ofInt 8 c, BitVec.ofInt 8 s] := arg_of (Blk.new w (encs .u8 [kind, BitVec.ofInt 8 c, BitVec.ofInt 8 s]) 5).rd rfl (Nat.le_refl _)
  have HA := Lib.hid a0
  have HF : Hid ([kind, BitVec.ofInt 8 c, BitVec.ofInt 8 s] ++ [low r 8, b].flatten = packB kind c s r b) := by show _ = _; simp [packB]
  clear a0
  go_enter Try.func33, Try.ntmps33
  go_wp2_with fail
  refine (rlow14_any r 8 _ (by omega)).mono ?_
  rintro e w1 ⟨v1, rfl, h1, hn⟩
  replace h1 : OwnB w1 _ v1 (low r 8) := h1
  have a1 := h1.arg
  obtain ⟨A1, c1, rfl, hc1, hR1⟩ := id a1
  have hb1 := hn0.trans (hn.mono hn0.size)
  have HA1 := Lib.hid (And.intro (HA.out.below hn) (And.intro a1 (HB.out.below hb1)))
  have hn2 : Below w1.heap.size w1 (w1.alloc (.cells #[.slice A1 (low r 8).length c1, .slice A b.length cap] 38)) := (Below.refl _ _).alloc (Nat.le_refl _) _
  have mb := Blk.new w1 #[.slice A1 (low r 8).length c1, .slice A b.length cap] 38
  have HAR := Lib.hid (args2p mb (HA1.out.2.1.below hn2) (HA1.out.2.2.below hn2))
  have HA0 := Lib.hid (HA1.out.1.below hn2)
  clear hn hR1 hc1 a1 h1 mb HA1
  go_wp2_with fail
  refine (rboth14_any _ _ [low r 8, b] _ 2 _ HA0.out HAR.out (by simp [low_length]; omega) (by simp)).mono ?_
  rintro e w2 ⟨v2, rfl, h2, hn3⟩
  have hs := hn2.trans (hn3.mono hn2.size)
  have h3 : OwnB w2 _ v2 _ := h2
  rw [HF.out] at h3
  go_wp2_with fail
  go_ret
  exact ⟨_, rfl, OwnB.base h3 (by have := hb1.size; have := hn2.size; omega), hb1.trans (hs.mono hb1.size)⟩
end Go.Proofs.Ytjnbgoiaocpcjaa
