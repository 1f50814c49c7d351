/- sha: Copy, Len, Write, Pad, Sum; hashes that are not there. -/
import Derived.Test.YtfamcgmgcchppaaShaNew
namespace Go.Proofs.Ytfamcgmgcchppaa
open Go.RowKit
set_option linter.unusedVariables false
set_option linter.unusedSimpArgs false
theorem hashL_one (st : List (BitVec 32)) (A : Option Addr) (n c : Nat) (rest : List (BitVec 8)) (k : Int) : (hashL st (.slice A n c) rest k).toArray.all (·.oneCell') = true := by
  rw [Array.all_eq_true_iff_forall_mem]
  intro v hv
  simp only [hashL, List.mem_toArray, List.mem_append, List.mem_cons, List.not_mem_nil, or_false] at hv
  rcases hv with hv | rfl | hv | rfl
  · exact encL_one _ _ v hv
  · rfl
  · exact encL_one _ _ v hv
  · rfl
def h0L : List Value := hashL z8 (.slice none 0 0) z64 0
theorem kernelZeroHash (w : World) : (zeroValue 101).run Try.prog w = .ok (.agg h0L.toArray) w := by kernel_rfl
theorem h0L_length : h0L.length = 74 := rfl
set_option maxRecDepth 100000 in
set_option maxHeartbeats 2000000 in
theorem copy_any (g gk : Nat) (m : List (BitVec 8)) (w : World) (h : HashR w g gk m) :
    Calls Try.prog 47 #[.pointer (some ⟨g, 0, none⟩)] w fun e w' => ∃ g2, e = .returned (.pointer (some ⟨g2, 0, none⟩)) ∧ HashR w' g2 gk m ∧ w.heap.size ≤ g2 ∧ Below w.heap.size w w' := by
  obtain ⟨ok, kc, rest, hB, hK, hkg, hr64, htl⟩ := h.ex
  have hle := h.le
  clear h
  have hL := Lib.hid (hashL_length (shaSt m).l (.slice (some ⟨gk, ok, none⟩) 64 kc) rest m.length rfl hr64)
  have hL0 := Lib.hid h0L_length
  have hz0 := kernelZeroHash
  have hO := Lib.hid (hashL_one (shaSt m).l (some ⟨gk, ok, none⟩) 64 kc rest m.length)
  have hfin : Hid (∀ w', Blk w' w.heap.size (hashL (shaSt m).l (.slice (some ⟨gk, ok, none⟩) 64 kc) rest m.length).toArray 101 → Below w.heap.size w w' → HashR w' w.heap.size gk m) := fun w' h1 h2 =>
    ⟨⟨ok, kc, rest, h1, hK.below h2, by obtain ⟨_, _, he, hc⟩ := hK 0 (by rw [shK_length]; omega); cases he; have := World.block_lt_of_cell? _ _ hc; simp at this; omega, hr64, htl⟩, hle⟩
  clear hK hr64 htl hle
  generalize hashL (shaSt m).l (.slice (some ⟨gk, ok, none⟩) 64 kc) rest m.length = H at *
  have hN := Blk.new w h0L.toArray 101
  go_enter Try.func47, Try.ntmps47
  go_wp2_with (first | (refine wpList_load_row rfl 101 _ rfl g rfl 101 _ (0, 0) _ hB Try.underlying101 rfl (by rw [List.size_toArray, hL.out]; exact sizeHash) ?_) | (refine wpList_store_row rfl 101 _ _ rfl _ _ rfl rfl 101 _ hN (by rw [List.size_toArray, hL.out]; exact sizeHash) (by rw [List.size_toArray, List.size_toArray, hL.out, hL0.out]) hO.out ?_) | fail)
  go_ret
  have hb : Below w.heap.size w ((w.alloc (.cells h0L.toArray 101)).setRow w.heap.size H.toArray) := below_setRow ((Below.refl _ _).alloc (Nat.le_refl _) _) (Nat.le_refl _) _
  exact ⟨_, rfl, hfin.out _ (hN.row _) hb, Nat.le_refl _, hb⟩
theorem copy_nil (w : World) : Calls Try.prog 47 #[.pointer none] w fun e w' => e = .returned (.pointer none) ∧ w = w' := by
  go_enter Try.func47, Try.ntmps47
  go_wp2_with fail
  go_ret
  exact ⟨rfl, rfl⟩
end Go.Proofs.Ytfamcgmgcchppaa
