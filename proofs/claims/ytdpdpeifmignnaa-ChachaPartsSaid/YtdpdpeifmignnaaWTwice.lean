/- The walk of ChachaTwice. -/
import Derived.Test.YtdpdpeifmignnaaWakes
import Derived.Test.YtdpdpeifmignnaaPart
namespace Go.Proofs.Ytdpdpeifmignnaa
open Go.RowKit
theorem chXor_twice (key nonce b : List (BitVec 8)) (ctr : BitVec 32) : chXor key ctr nonce (chXor key ctr nonce b) = b := by
  apply List.ext_getElem
  · simp [chXor_length]
  · intro i h1 h2
    have h3 : i < (chXor key ctr nonce b).length := by simpa [chXor_length] using h2
    simp [chXor, xorM, h2, List.getD, BitVec.xor_assoc]
theorem rd_take {w : World} {A : Option Addr} {b : List (BitVec 8)} (h : Rd w .u8 A b) (L : Nat) : Rd w .u8 A (b.take L) := fun i hi => by
  rw [List.length_take] at hi
  obtain ⟨g, off, hA, hc⟩ := h i (by omega)
  refine ⟨g, off, hA, ?_⟩
  rw [hc]
  simp [List.getD, show i < L by omega]
attribute [local go_sem] min_imin
set_option maxHeartbeats 4000000 in
theorem twice_walk (key nonce b : List (BitVec 8)) (ctr : BitVec 32) (A : Option Addr) (cap : Nat) (hk : key.length = 32) (hn : nonce.length = 12) (hcap : b.length ≤ cap) (w : World) (hR : Rd w .u8 A b) :
    Calls Try.prog 7 #[.agg (usedC key ctr nonce), .slice A b.length cap] w fun e w' => e = .returned (.bool true) ∧ Below w.heap.size w w' := by
  have HK := Lib.hid hk
  have HN := Lib.hid hn
  clear hk hn
  obtain ⟨L, hL⟩ : ∃ L, L = min b.length 4000 := ⟨_, rfl⟩
  obtain ⟨c, hc⟩ : ∃ c, c = b.take L := ⟨_, rfl⟩
  have hcl : c.length = L := by rw [hc, List.length_take, hL]; omega
  have hRc : Rd w .u8 A c := by rw [hc]; exact rd_take hR L
  have hmin : imin (b.length : Int) 4000 = (L : Int) := by rw [hL]; exact imin_nat b.length 4000
  have hLl : L ≤ 4000 := by omega
  have hLb : (L : Int) ≤ (cap : Int) := by omega
  clear hL hc
  generalize b.length = len at *
  have HL := Lib.hid hcl
  clear hcl
  go_enter Try.func7, Try.ntmps7
  go_wp2_with fail
  refine (wakes_any _).mono ?_
  rintro e w1 ⟨rfl, hb1⟩
  have hB : Blk w1 w.heap.size (usedC key ctr nonce) 28 := (Blk.new w _ _).below hb1 (by simp)
  have hb : Below w.heap.size w w1 := ((Below.refl _ _).alloc (Nat.le_refl _) _).trans (hb1.mono (by simp))
  clear hb1
  have hct : w1.cell? ⟨w.heap.size, 32, none⟩ = some (.int .u32 (wb ctr)) := by rw [hB.cell, usedC_ctr key ctr nonce HK.out]
  go_wp2_with (first | (refine wpList_load_part rfl 23 _ rfl w.heap.size 0 rfl 28 _ (0, 0) _ (encL .u8 key) hB (usedC_key key ctr nonce) Try.underlying23 rfl (by rw [encL_length, HK.out]; exact size23) ?_) | (refine wpList_load_part rfl 26 _ rfl w.heap.size 33 rfl 28 _ (0, 0) _ (encL .u8 nonce) hB (usedC_nonce key ctr nonce HK.out) Try.underlying26 rfl (by rw [encL_length, HN.out]; exact size26) ?_) | fail)
  have hx := xor_any key nonce c ctr A cap HK.out HN.out (by rw [HL.out]; omega) w1 (hRc.below hb)
  rw [HL.out] at hx
  refine hx.mono ?_
  clear hx
  rintro e w2 ⟨g, rfl, hB2, hg, hb2⟩
  simp only [chXor_length, HL.out]
  have hB' : Blk w2 w.heap.size (usedC key ctr nonce) 28 := hB.below hb2 hB.lt
  have hbb : Below w.heap.size w w2 := hb.trans (hb2.mono hb.size)
  have hct' : w2.cell? ⟨w.heap.size, 32, none⟩ = some (.int .u32 (wb ctr)) := by rw [hB'.cell, usedC_ctr key ctr nonce HK.out]
  clear hB hct hb2
  go_wp2_with (first | (refine wpList_load_part_guarded rfl 23 _ rfl w.heap.size 0 rfl 28 _ (0, 0) _ (encL .u8 key) hB' (usedC_key key ctr nonce) Try.underlying23 rfl (by rw [encL_length, HK.out]; exact size23) ?_) | (refine wpList_load_part_guarded rfl 26 _ rfl w.heap.size 33 rfl 28 _ (0, 0) _ (encL .u8 nonce) hB' (usedC_nonce key ctr nonce HK.out) Try.underlying26 rfl (by rw [encL_length, HN.out]; exact size26) ?_) | fail)
  have hx := xor_any key nonce (chXor key ctr nonce c) ctr (some ⟨g, 0, none⟩) L HK.out HN.out (by rw [chXor_length, HL.out]; omega) w2 hB2.rd
  rw [chXor_length, HL.out] at hx
  refine hx.mono ?_
  clear hx
  rintro e w3 ⟨g3, rfl, hB3, hg3, hb3⟩
  rw [chXor_twice] at hB3
  simp only [chXor_length, HL.out]
  go_wp2_with fail
  have hx := bytesEqual_any c c (some ⟨g3, 0, none⟩) A L cap w3 hB3.rd (hRc.below (hbb.trans (hb3.mono hbb.size)))
  rw [HL.out] at hx
  refine hx.mono ?_
  clear hx
  rintro e w' ⟨rfl, rfl⟩
  go_wp2
  go_ret
  exact ⟨by simp, hbb.trans (hb3.mono hbb.size)⟩
end Go.Proofs.Ytdpdpeifmignnaa
