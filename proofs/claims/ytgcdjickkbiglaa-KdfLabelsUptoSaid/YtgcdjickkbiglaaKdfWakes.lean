/- The layer's wakes. -/
import Derived.Test.YtgcdjickkbiglaaKdfRows
import Derived.Lib.SmallJoins
namespace Go.Proofs.Ytgcdjickkbiglaa
open Go.RowKit
set_option linter.unusedVariables false
set_option linter.unusedSimpArgs false
theorem mark_rd (w : World) (cs : Array Value) (l : List (BitVec 8)) (hcs : cs = encs .u8 l) (g : Nat) (hg : g = w.heap.size) (T : TypeId) (fr : Nat × Nat) : Rd (w.alloc (.cells cs T fr)) .u8 (some ⟨g, 0, none⟩) l := fun i hi => by
  refine ⟨_, _, rfl, ?_⟩
  rw [Nat.zero_add, Joins.cell_alloc_mark_at _ _ _ _ _ _ hg, hcs]
  exact encs_get .u8 l i hi
def jefeC : Array Value := #[.int .u8 74, .int .u8 101, .int .u8 102, .int .u8 101]
def wk1C : Array Value := #[.int .u8 119, .int .u8 104, .int .u8 97, .int .u8 116, .int .u8 32, .int .u8 100, .int .u8 111, .int .u8 32, .int .u8 121, .int .u8 97, .int .u8 32, .int .u8 119, .int .u8 97, .int .u8 110, .int .u8 116, .int .u8 32]
def wk2C : Array Value := #[.int .u8 102, .int .u8 111, .int .u8 114, .int .u8 32, .int .u8 110, .int .u8 111, .int .u8 116, .int .u8 104, .int .u8 105, .int .u8 110, .int .u8 103, .int .u8 63]
theorem conv1 (w : World) : (convert 22 22 (.slice (some ⟨w.heap.size, 0, none⟩) 4 4)).run Try.prog (w.alloc (.cells #[.int .u8 74, .int .u8 101, .int .u8 102, .int .u8 101] 5)) = .ok (.slice (some ⟨w.heap.size, 0, none⟩) 4 4) (w.alloc (.cells jefeC 5 (4, 5))) :=
  Joins.run_convert_bytes_const_at w 22 5 jefeC 4 4 w.heap.size rfl Try.underlying22 Try.underlying5
theorem conv2 (w : World) : (convert 22 22 (.slice (some ⟨w.heap.size, 0, none⟩) 16 16)).run Try.prog (w.alloc (.cells #[.int .u8 119, .int .u8 104, .int .u8 97, .int .u8 116, .int .u8 32, .int .u8 100, .int .u8 111, .int .u8 32, .int .u8 121, .int .u8 97, .int .u8 32, .int .u8 119, .int .u8 97, .int .u8 110, .int .u8 116, .int .u8 32] 5)) = .ok (.slice (some ⟨w.heap.size, 0, none⟩) 16 16) (w.alloc (.cells wk1C 5 (16, 17))) :=
  Joins.run_convert_bytes_const_at w 22 5 wk1C 16 16 w.heap.size rfl Try.underlying22 Try.underlying5
theorem conv3 (w : World) : (convert 22 22 (.slice (some ⟨w.heap.size, 0, none⟩) 12 12)).run Try.prog (w.alloc (.cells #[.int .u8 102, .int .u8 111, .int .u8 114, .int .u8 32, .int .u8 110, .int .u8 111, .int .u8 116, .int .u8 104, .int .u8 105, .int .u8 110, .int .u8 103, .int .u8 63] 5)) = .ok (.slice (some ⟨w.heap.size, 0, none⟩) 12 12) (w.alloc (.cells wk2C 5 (12, 13))) :=
  Joins.run_convert_bytes_const_at w 22 5 wk2C 12 12 w.heap.size rfl Try.underlying22 Try.underlying5
set_option maxRecDepth 100000 in
set_option maxHeartbeats 4000000 in
theorem wakes_any (w : World) : Calls Try.prog 9 #[] w fun e w' => e = .returned (.bool true) ∧ Below w.heap.size w w' := by
  have HW : Hid (hmac jefe (wake1 ++ wake2) = hmac jefe [wake1, wake2].flatten) := by show _ = _; simp
  have H0 := Lib.hid wake_0
  have H1 := Lib.hid wake_31
  have HL := Lib.hid (hmac_length jefe [wake1, wake2].flatten)
  have hc1 := conv1 w
  have hc2 := conv2 (w.alloc (.cells jefeC 5 (4, 5)))
  have hc3 := conv3 ((w.alloc (.cells jefeC 5 (4, 5))).alloc (.cells wk1C 5 (16, 17)))
  rw [World.size_alloc] at hc2
  rw [World.size_alloc, World.size_alloc] at hc3
  go_enter Try.func9, Try.ntmps9
  go_wp2_with fail
  clear hc1 hc2 hc3
  obtain ⟨w1, hw1⟩ : ∃ w1, w1 = w.alloc (.cells jefeC 5 (4, 5)) := ⟨_, rfl⟩
  have s1 : w1.heap.size = w.heap.size + 1 := by rw [hw1]; simp
  have r1 : Rd w1 .u8 (some ⟨w.heap.size, 0, none⟩) jefe := by rw [hw1]; exact mark_rd w jefeC jefe rfl _ rfl _ _
  have b1 : Below w.heap.size w w1 := by rw [hw1]; exact (Below.refl _ _).alloc (Nat.le_refl _) _
  rw [← hw1]
  obtain ⟨w2, hw2⟩ : ∃ w2, w2 = w1.alloc (.cells wk1C 5 (16, 17)) := ⟨_, rfl⟩
  have s2 : w2.heap.size = w.heap.size + 1 + 1 := by rw [hw2]; simp [s1]
  have r2 : Rd w2 .u8 (some ⟨w.heap.size + 1, 0, none⟩) wake1 := by rw [hw2]; exact mark_rd w1 wk1C wake1 rfl _ s1.symm _ _
  have b2 : Below w1.heap.size w1 w2 := by rw [hw2]; exact (Below.refl _ _).alloc (Nat.le_refl _) _
  rw [← hw2]
  obtain ⟨w3, hw3⟩ : ∃ w3, w3 = w2.alloc (.cells wk2C 5 (12, 13)) := ⟨_, rfl⟩
  have s3 : w3.heap.size = w.heap.size + 1 + 1 + 1 := by rw [hw3]; simp [s2]
  have r3 : Rd w3 .u8 (some ⟨w.heap.size + 1 + 1, 0, none⟩) wake2 := by rw [hw3]; exact mark_rd w2 wk2C wake2 rfl _ s2.symm _ _
  have b3 : Below w2.heap.size w2 w3 := by rw [hw3]; exact (Below.refl _ _).alloc (Nat.le_refl _) _
  rw [← hw3]
  have b4 : Below w3.heap.size w3 (w3.alloc (.cells #[.slice (some ⟨w.heap.size + 1, 0, none⟩) 16 16, .slice (some ⟨w.heap.size + 1 + 1, 0, none⟩) 12 12] 22)) := (Below.refl _ _).alloc (Nat.le_refl _) _
  have m4 := Blk.new_at w3 #[.slice (some ⟨w.heap.size + 1, 0, none⟩) 16 16, .slice (some ⟨w.heap.size + 1 + 1, 0, none⟩) 12 12] 22 (w.heap.size + 1 + 1 + 1) s3.symm
  generalize w3.alloc (.cells #[.slice (some ⟨w.heap.size + 1, 0, none⟩) 16 16, .slice (some ⟨w.heap.size + 1 + 1, 0, none⟩) 12 12] 22) = w4 at *
  have b34 := b3.trans (b4.mono b3.size)
  have b24 := b2.trans (b34.mono b2.size)
  have hb := b1.trans (b24.mono b1.size)
  have a1 : Arg w4 (.slice (some ⟨w.heap.size, 0, none⟩) 4 4) jefe := arg_of (r1.below b24) rfl (Nat.le_refl _)
  have a2 : RowArg w4 (.slice (some ⟨w.heap.size + 1, 0, none⟩) 16 16) wake1 := ⟨_, 16, rfl, Nat.le_refl _, by simp [wake1], r2.below b34⟩
  have a3 : RowArg w4 (.slice (some ⟨w.heap.size + 1 + 1, 0, none⟩) 12 12) wake2 := ⟨_, 12, rfl, Nat.le_refl _, by simp [wake2], r3.below b4⟩
  clear hw1 hw2 hw3 r1 r2 r3 b1 b2 b3 b4 b34 b24 s1 s2 s3
  refine (hmac2_v a1 (by simp [jefe]) m4 a2 a3 (by simp [wake1, wake2])).mono ?_
  rintro e w5 ⟨rfl, hn⟩
  replace hb := hb.trans (hn.mono hb.size)
  clear hn a1 a2 a3 m4
  rw [HW.out]
  generalize hmac jefe [wake1, wake2].flatten = S at *
  have hN := Blk.new w5 (encs .u8 z32s) 25
  have hBK := hN.row (encs .u8 S)
  have hn : Below w5.heap.size w5 ((w5.alloc (.cells (encs .u8 z32s) 25)).setRow w5.heap.size (encs .u8 S)) := below_setRow ((Below.refl _ _).alloc (Nat.le_refl _) _) (Nat.le_refl _) _
  replace hb := hb.trans (hn.mono hb.size)
  clear hn
  have c0 := hBK.word 0 (by rw [HL.out]; omega)
  have c31 := hBK.word 31 (by rw [HL.out]; omega)
  rw [H0.out] at c0
  rw [H1.out] at c31
  go_wp2_with (first | (refine wpList_store_row rfl 25 _ _ rfl _ _ rfl rfl 25 _ hN (by rw [encs_size, HL.out]; exact sizeKey0) (by rw [encs_size, encs_size, HL.out]; rfl) (encs_one _ _) ?_; change wpList _ _ _ _ _ ((w5.alloc (.cells (encs .u8 z32s) 25)).setRow w5.heap.size (encs .u8 S)); generalize (w5.alloc (.cells (encs .u8 z32s) 25)).setRow w5.heap.size (encs .u8 S) = w6 at *; generalize w5.heap.size = gs at *) | fail)
  go_ret
  exact ⟨by first | rfl | simp | (simp [wb]), hb⟩
end Go.Proofs.Ytgcdjickkbiglaa
