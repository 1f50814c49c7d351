/- Dice in plain Lean: the stream of a key. -/
import Derived.Test.YtfamcgmgcchppaaChaRefBlk
import Derived.Test.YtfamcgmgcchppaaArgV0
import Derived.Test.YtfamcgmgcchppaaBuild
import Derived.Test.YtfamcgmgcchppaaShaWrite
namespace Go.Proofs.Ytfamcgmgcchppaa
open Go.RowKit
set_option linter.unusedVariables false
def z12 : List (BitVec 8) := List.replicate 12 0
def blkN (key : List (BitVec 8)) (q : Nat) : List (BitVec 8) := chBlock key (BitVec.ofNat 32 q) z12
theorem blkN_length (key : List (BitVec 8)) (q : Nat) : (blkN key q).length = 64 := chBlock_length _ _ _
/-- The n bytes of a key's stream from place a on. -/
def strm (key : List (BitVec 8)) (a n : Nat) : List (BitVec 8) := (List.range n).map fun j => (blkN key ((a + j) / 64)).getD ((a + j) % 64) 0
theorem strm_length (key : List (BitVec 8)) (a n : Nat) : (strm key a n).length = n := by simp [strm]
theorem strm_zero (key : List (BitVec 8)) (a : Nat) : strm key a 0 = [] := rfl
theorem range_map_add {α : Type} (f : Nat → α) (m k : Nat) : (List.range (m + k)).map f = (List.range m).map f ++ (List.range k).map (fun j => f (m + j)) := by
  rw [List.range_add, List.map_append, List.map_map]
  rfl
theorem strm_add (key : List (BitVec 8)) (a m k : Nat) : strm key a (m + k) = strm key a m ++ strm key (a + m) k := by
  unfold strm
  rw [range_map_add]
  simp only [Nat.add_assoc]
theorem strm_getD (key : List (BitVec 8)) (a n j : Nat) (h : j < n) : (strm key a n).getD j 0 = (blkN key ((a + j) / 64)).getD ((a + j) % 64) 0 := by
  simp [strm, List.getD, h]
theorem strm_block (key : List (BitVec 8)) (a k : Nat) (h : a % 64 + k ≤ 64) : strm key a k = ((blkN key (a / 64)).drop (a % 64)).take k := by
  have hl := blkN_length key (a / 64)
  apply List.ext_getElem
  · rw [strm_length, List.length_take, List.length_drop, hl]; omega
  · intro j h1 h2
    rw [strm_length] at h1
    have e1 : (a + j) / 64 = a / 64 := by omega
    have e2 : (a + j) % 64 = a % 64 + j := by omega
    simp only [strm, List.getElem_map, List.getElem_range, e1, e2, List.getElem_take, List.getElem_drop]
    rw [List.getD, List.getElem?_eq_getElem (by rw [hl]; omega)]
    rfl
/-- Dice's cells. -/
def diceL (key : List (BitVec 8)) (t : Nat) : List Value := encL .u8 key ++ [.int .i64 (t : Int)]
def DiceR (w : World) (g : Nat) (key : List (BitVec 8)) (t : Nat) : Prop := key.length = 32 ∧ Blk w g (diceL key t).toArray 67
theorem DiceR.lt {w : World} {g : Nat} {key : List (BitVec 8)} {t : Nat} (h : DiceR w g key t) : g < w.heap.size := h.2.lt
theorem DiceR.below {w w' : World} {g : Nat} {key : List (BitVec 8)} {t : Nat} (h : DiceR w g key t) (hb : Below w.heap.size w w') : DiceR w' g key t := ⟨h.1, h.2.below hb h.2.lt⟩
theorem DiceR.upd {w w' : World} {g g' : Nat} {key : List (BitVec 8)} {t : Nat} (h : DiceR w g key t) (hu : Upd g' w w') (hne : g ≠ g') : DiceR w' g key t := ⟨h.1, h.2.upd hu hne⟩
theorem DiceR.rd {w : World} {g : Nat} {key : List (BitVec 8)} {t : Nat} (h : DiceR w g key t) : Rd w .u8 (some ⟨g, 0, none⟩) key := h.2.rdSeg [] [.int .i64 (t : Int)] (by simp [diceL]) rfl
theorem DiceR.cell {w : World} {g : Nat} {key : List (BitVec 8)} {t : Nat} (h : DiceR w g key t) : w.cell? ⟨g, 32, none⟩ = some (.int .i64 (t : Int)) := h.2.cellSeg (encL .u8 key) [] (by simp [diceL]) (by rw [encL_length, h.1])
theorem DiceR.frozen {w : World} {g : Nat} {key : List (BitVec 8)} {t : Nat} (h : DiceR w g key t) : w.frozen? ⟨g, 32, none⟩ = false := h.2.frozen 32
theorem DiceR.set {w : World} {g : Nat} {key : List (BitVec 8)} {t : Nat} (h : DiceR w g key t) (t' : Nat) : DiceR (w.setCell ⟨g, 32, none⟩ (.int .i64 (t' : Int))) g key t' := by
  refine ⟨h.1, ?_⟩
  have := h.2.set 32 (.int .i64 (t' : Int))
  have e : (diceL key t).toArray.setIfInBounds 32 (.int .i64 (t' : Int)) = (diceL key t').toArray := by
    have hl : (encL .u8 key).length = 32 := by rw [encL_length, h.1]
    rw [List.setIfInBounds_toArray]
    congr 1
    unfold diceL
    rw [List.set_append_right _ _ (by omega), hl]
    rfl
  rwa [e] at this
theorem sizeKeyD : (Try.prog.info? 41).map (·.size) = some 32 := by kernel_rfl
theorem nonce0 (w : World) : (Instr.build 74 #[]).run Try.prog w = .ok (.agg (encs .u8 z12)) w := by kernel_rfl
theorem run_cut64 (g lo hi : Nat) (h : lo ≤ hi) (h2 : hi ≤ 64) (h3 : lo < 64) (w : World) : (Instr.sliceAt 70 (.pointer (some ⟨g, 0, none⟩)) (some (.int .i64 (lo : Int))) (some (.int .i64 (hi : Int))) none).run Try.prog w = .ok (.slice (some ⟨g, lo, none⟩) (hi - lo) (64 - lo)) w := by
  have e : Try.prog.arrayLen 70 = 64 := by kernel_rfl
  have e2 : Try.prog.elem 70 = 5 := by kernel_rfl
  have hs : (sizeOf 5).run Try.prog w = .ok 1 w := by kernel_rfl
  have := run_sliceAt_array_lh (P := Try.prog) w 70 ⟨g, 0, none⟩ (by rw [e, e2]; exact Try.underlying70) .i64 .i64 (lo : Int) (hi : Int) (by omega) (by omega) (by rw [e]; omega)
  rw [this, e, e2, hs]
  simp only [Result.andThen_ok, slicedAt, Int.toNat_natCast, Nat.mul_one]
  rw [if_neg (by omega), add_lit, Nat.zero_add]
end Go.Proofs.Ytfamcgmgcchppaa
