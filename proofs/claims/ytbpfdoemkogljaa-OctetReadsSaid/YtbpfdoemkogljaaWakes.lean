/- Does the layer do anything? -/
import Derived.Test.YtbpfdoemkogljaaOctKey
namespace Go.Proofs.Ytbpfdoemkogljaa
open Go.RowKit
theorem new_rd {k : IntKind} {n : Nat} (l : List (BitVec n)) (w : World) (e : TypeId) (cs : Array Value) (h : cs = encs k l) : Rd (w.alloc (.cells cs e)) k (some ⟨w.heap.size, 0, none⟩) l := by
  subst h
  exact (Blk.new w _ e).rd
theorem new_rd_at {k : IntKind} {n : Nat} (l : List (BitVec n)) (w : World) (e : TypeId) (cs : Array Value) (h : cs = encs k l) (g : Nat) (hg : g = w.heap.size) : Rd (w.alloc (.cells cs e)) k (some ⟨g, 0, none⟩) l := by
  subst hg
  exact new_rd l w e cs h
set_option maxHeartbeats 2000000 in
theorem wakes_any (w : World) : Calls Try.prog 9 #[] w fun e w' => e = .returned (.bool true) ∧ Below w.heap.size w w' := by
  go_enter Try.func9, Try.ntmps9
  go_wp2_with fail
  refine (read_any [2#8, 1#8, 5#8] (some ⟨w.heap.size, 0, none⟩) 3 _ (new_rd _ w 5 _ rfl) (by simp)).mono ?_
  rintro e w1 ⟨g, A, cap, rfl, hr, hg, hb⟩
  have hb1 : Below w.heap.size w w1 := ((Below.refl _ _).alloc (Nat.le_refl _) _).trans (hb.mono (by simp))
  have hw1 : w.heap.size < w1.heap.size := by have := hb.size; simp at this; omega
  have hg' : w.heap.size < g := by simp at hg; omega
  clear hb hg
  go_wp2_with fail
  refine (u16_any g A cap _ 0 0 w1 hr).mono ?_
  rintro e w2 ⟨rfl, hr2, hu2⟩
  have e1 : wb ((get64 (rdGot [2#8, 1#8, 5#8] 0 0 2)).setWidth 16) = 258 := by decide +kernel
  rw [e1]
  have hb2 : Below w.heap.size w w2 := Upd.below hb1 hu2 (by omega) (by omega)
  clear e1 hu2 hb1 hr
  go_wp2_with fail
  refine (left_any g A cap _ _ _ w2 hr2).mono ?_
  rintro e w3 ⟨rfl, n, rfl⟩
  have e1 : ((([2#8, 1#8, 5#8] : List (BitVec 8)).length : Int) - (rdAt ([2#8, 1#8, 5#8] : List (BitVec 8)).length 0 0 2 : Nat)) = 1 := by decide +kernel
  rw [e1]
  have hb3 : Below w.heap.size w (w2.drewN n) := below_drewN hb2 n
  clear e1 hr2
  generalize w2.drewN n = w3 at *
  go_wp2_with fail
  refine (equal_any [7#8] [7#8] (some ⟨w3.heap.size, 0, none⟩) (some ⟨w3.heap.size + 1, 0, none⟩) 1 1 _ (Rd.below (new_rd [7#8] w3 5 #[.int .u8 7] rfl) ((Below.refl _ _).alloc (Nat.le_refl _) _)) (new_rd_at [7#8] (w3.alloc (.cells #[.int .u8 7] 5)) 5 #[.int .u8 7] rfl _ (by simp)) (by simp)).mono ?_
  rintro e w4 ⟨rfl, n4, rfl⟩
  have e1 : ([7#8] == [7#8]) = true := by decide
  rw [e1]
  have hb4 : Below w.heap.size w (((w3.alloc (.cells #[.int .u8 7] 5)).alloc (.cells #[.int .u8 7] 5)).drewN n4) := below_drewN ((hb3.alloc hb3.size _).alloc (by have := hb3.size; simp; omega) _) n4
  clear e1
  generalize ((w3.alloc (.cells #[.int .u8 7] 5)).alloc (.cells #[.int .u8 7] 5)).drewN n4 = w4 at *
  go_wp2_with fail
  refine (equal_any [7#8] [8#8] (some ⟨w4.heap.size, 0, none⟩) (some ⟨w4.heap.size + 1, 0, none⟩) 1 1 _ (Rd.below (new_rd [7#8] w4 5 #[.int .u8 7] rfl) ((Below.refl _ _).alloc (Nat.le_refl _) _)) (new_rd_at [8#8] (w4.alloc (.cells #[.int .u8 7] 5)) 5 #[.int .u8 8] rfl _ (by simp)) (by simp)).mono ?_
  rintro e w5 ⟨rfl, n5, rfl⟩
  have e1 : ([7#8] == [8#8]) = false := by decide
  rw [e1]
  have hb5 : Below w.heap.size w (((w4.alloc (.cells #[.int .u8 7] 5)).alloc (.cells #[.int .u8 8] 5)).drewN n5) := below_drewN ((hb4.alloc hb4.size _).alloc (by have := hb4.size; simp; omega) _) n5
  clear e1
  generalize ((w4.alloc (.cells #[.int .u8 7] 5)).alloc (.cells #[.int .u8 8] 5)).drewN n5 = w5 at *
  go_wp2_with fail
  go_ret
  exact ⟨rfl, hb5⟩
end Go.Proofs.Ytbpfdoemkogljaa
