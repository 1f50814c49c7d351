/- sha.New: a hash of no bytes; Copy, Len, and hashes that are not there. -/
import Derived.Test.YtfamcgmgcchppaaShaWrite
namespace Go.Proofs.Ytfamcgmgcchppaa
open Go.RowKit
set_option linter.unusedVariables false
set_option linter.unusedSimpArgs false
theorem words_hold (s : ByteArray) (l : List (BitVec 32)) (hs : (s.data.toList.map UInt8.toNat).all hexB = true) (hz : s.data.toList.length ≤ 10000) (hl : wordsK (s.data.toList.map UInt8.toNat) s.data.toList.length = l) (w : World) :
    Calls Try.prog 45 #[.string s] w (RetOwn w 72 .u32 l) := by
  have e : s.data.toList.length = s.size := by rw [Array.length_toList]; rfl
  have := words_any s (fun i h => ?_) (by rw [← e]; exact hz) w
  · rw [← e, hl] at this
    exact this
  · rw [List.all_eq_true] at hs
    refine hs _ ?_
    rw [List.mem_map]
    exact ⟨s[i], by rw [Array.mem_toList_iff]; exact Array.getElem_mem _, rfl⟩
def z64 : List (BitVec 8) := List.replicate 64 0
def z8 : List (BitVec 32) := List.replicate 8 0
theorem z64_length : z64.length = 64 := rfl
theorem z8_length : z8.length = 8 := rfl
theorem sizeHash : (Try.prog.info? 101).map (·.size) = some 74 := by kernel_rfl
theorem build_hash (A : Option Addr) (n c : Nat) (w : World) : (Instr.build 101 #[(1, .slice A n c)]).run Try.prog w = .ok (.agg (hashL z8 (.slice A n c) z64 0).toArray) w := by kernel_rfl
theorem over_state (s s' : List (BitVec 32)) (kv : Value) (rest : List (BitVec 8)) (n : Int) (h : s.length = s'.length) : over (hashL s kv rest n).toArray 0 (encL .u32 s') = (hashL s' kv rest n).toArray := by
  unfold over hashL
  rw [List.toList_toArray, Nat.zero_add, encL_length, ← h, ← encL_length .u32 s, List.drop_left, List.take_zero, List.nil_append]
set_option maxRecDepth 100000 in
set_option maxHeartbeats 4000000 in
theorem new_any (w : World) : Calls Try.prog 32 #[] w fun e w' => ∃ g gk, e = .returned (.pointer (some ⟨g, 0, none⟩)) ∧ HashR w' g gk [] ∧ w.heap.size ≤ g ∧ w.heap.size ≤ gk ∧ Below w.heap.size w w' := by
  go_enter Try.func32, Try.ntmps32
  go_wp2_with fail
  refine (words_hold _ shK (by decide +kernel) (by decide +kernel) (by decide +kernel) w).mono ?_
  rintro e w1 ⟨v, rfl, hv, hb⟩
  obtain ⟨gk, kc, rfl, hg1, hg2⟩ := hv.form (by rw [shK_length]; omega)
  obtain ⟨A, cap, he, hcap, hR⟩ := ownsRow_rd hv
  cases he
  rw [shK_length] at hv hcap ⊢
  have hbu := build_hash (some ⟨gk, 0, none⟩) 64 kc
  go_wp2_with (first | (refine wpList_build rfl 101 _ rfl (.agg (hashL z8 (.slice (some ⟨gk, 0, none⟩) 64 kc) z64 0).toArray) _ hbu (by simp [Act.eval]) ?_) | fail)
  have hB : Blk (w1.alloc (.cells (hashL z8 (.slice (some ⟨gk, 0, none⟩) 64 kc) z64 0).toArray 101)) w1.heap.size (hashL z8 (.slice (some ⟨gk, 0, none⟩) 64 kc) z64 0).toArray 101 := Blk.new _ _ _
  have hn : Below w1.heap.size w1 (w1.alloc (.cells (hashL z8 (.slice (some ⟨gk, 0, none⟩) 64 kc) z64 0).toArray 101)) := (Below.refl _ _).alloc (Nat.le_refl _) _
  replace hR := hR.below hn
  have hgb := hb.size
  replace hb := hb.trans (hn.mono hb.size)
  have hsz : Hid ((hashL z8 (.slice (some ⟨gk, 0, none⟩) 64 kc) z64 0).toArray.size = 74) := by show _ = _; rw [List.size_toArray, hashL_length _ _ _ _ rfl rfl]
  have hge := hb.size
  have hgn : gk ≠ w1.heap.size := by omega
  clear hn hv hg2
  generalize w1.alloc (.cells (hashL z8 (.slice (some ⟨gk, 0, none⟩) 64 kc) z64 0).toArray 101) = w2 at *
  generalize w1.heap.size = g at *
  refine mix_start (fun _ => True) (List.range 6) [4, 5] [] [] (by kernel_rfl) (by kernel_rfl) (fun d _ _ _ _ h => by cases d <;> exact h) trivial ?_
  repeat (refine mix_pure rfl rfl (fun K hK => ?_); go_simp; refine hK _ ?_; clear hK K)
  refine mix_eff rfl rfl (fun K hK => ?_)
  go_simp
  refine (words_hold _ shH.l (by decide +kernel) (by decide +kernel) (by decide +kernel) _).mono ?_
  rintro e w3 ⟨v, rfl, hv, hn⟩
  obtain ⟨A, c2, rfl, hc2, hR2⟩ := ownsRow_rd hv
  have hn' : Below w2.heap.size w2 w3 := (Below.refl _ _).drew.trans hn
  replace hB := hB.below hn' hB.lt
  replace hR := hR.below hn'
  replace hb := hb.trans (hn'.mono hb.size)
  refine hK _ _ (fun _ h => h) ?_
  clear hK K hn hn' hv
  rw [S8.l_length] at hc2 ⊢
  repeat (refine mix_pure rfl rfl (fun K hK => ?_); go_simp; refine hK _ ?_; clear hK K)
  refine mix_eff rfl rfl (fun K hK => ?_)
  refine step_copy_blk rfl _ _ 98 98 72 rfl Try.underlying98 (by kernel_rfl) g 0 8 8 rfl _ _ hB A 8 c2 (encL .u32 shH.l) rfl rfl hR2.cells (encL_one _ _) (by rw [hsz.out]; omega) ?_
  intro w4 hB4 hu4
  rw [show (encL .u32 shH.l).take 8 = encL .u32 shH.l from rfl, over_state z8 shH.l _ _ _ rfl] at hB4
  refine hK _ _ (fun _ h => h) ?_
  clear hK K
  repeat (refine mix_pure rfl rfl (fun K hK => ?_); go_simp; refine hK _ ?_; clear hK K)
  refine mix_nil ?_
  go_wp2_with fail
  go_ret
  exact ⟨g, gk, rfl, ⟨⟨0, kc, z64, hB4, hR.upd' hu4 (fun a ha _ => by cases ha; exact hgn), hgn, rfl, rfl⟩, by simp⟩, by omega, by omega, Upd.below hb hu4 (by omega) hb.size⟩
end Go.Proofs.Ytfamcgmgcchppaa
