/- The walk of ChachaStreams. -/
import Derived.Test.YtdpdpeifmignnaaWakes
import Derived.Test.YtdpdpeifmignnaaStream
import Derived.Test.YtdpdpeifmignnaaRefXor
namespace Go.Proofs.Ytdpdpeifmignnaa
open Go.RowKit
set_option maxHeartbeats 4000000 in
theorem streams_walk (key nonce : List (BitVec 8)) (ctr : BitVec 32) (n : Int) (hk : key.length = 32) (hn : nonce.length = 12) (w : World) :
    Calls Try.prog 9 #[.agg (usedC key ctr nonce), .int .i64 n] w fun e w' => e = .returned (.bool true) ∧ Below w.heap.size w w' := by
  have HK := Lib.hid hk
  have HN := Lib.hid hn
  clear hk hn
  by_cases hbad : n < 1 ∨ 65536 < n
  · have Hbad := Lib.hid hbad
    clear hbad
    go_enter Try.func9, Try.ntmps9
    go_wp2_with fail
    refine (wakes_any _).mono ?_
    rintro e w1 ⟨rfl, hb1⟩
    have hB : Blk w1 w.heap.size (usedC key ctr nonce) 28 := (Blk.new w _ _).below hb1 (by simp)
    have hb : Below w.heap.size w w1 := ((Below.refl _ _).alloc (Nat.le_refl _) _).trans (hb1.mono (by simp))
    clear hb1
    go_wp2_with (first | (refine wpList_load_part rfl 23 _ rfl w.heap.size 0 rfl 28 _ (0, 0) _ (encL .u8 key) hB (usedC_key key ctr nonce) Try.underlying23 rfl (by rw [encL_length, HK.out]; exact size23) ?_) | (refine wpList_load_part rfl 26 _ rfl w.heap.size 33 rfl 28 _ (0, 0) _ (encL .u8 nonce) hB (usedC_nonce key ctr nonce HK.out) Try.underlying26 rfl (by rw [encL_length, HN.out]; exact size26) ?_) | fail)
    simp only [encL_toArray]
    refine (stream_none key nonce n Hbad.out _).mono ?_
    rintro e w2 ⟨rfl, hb2⟩
    replace hb := hb.trans (hb2.mono hb.size)
    clear hb2
    by_cases h1 : n < 1
    · go_wp2
      go_ret
      exact ⟨rfl, hb⟩
    · have h2 : 65536 < n := by have := Hbad.out; omega
      go_wp2
      go_ret
      exact ⟨rfl, hb⟩
  · obtain ⟨m, rfl⟩ : ∃ m : Nat, n = (m : Int) := ⟨n.toNat, by omega⟩
    have h1 : 1 ≤ m := by omega
    have h2 : m ≤ 65536 := by omega
    clear hbad
    have i1 : ¬ ((m : Int) < 1) := by omega
    have i2 : ¬ ((65536 : Int) < (m : Int)) := by omega
    have hmk := fun wx => run_make_words (P := Try.prog) 38 5 .u8 8 1 Try.underlying38 mem5 m (by omega) (by omega) wx
    obtain ⟨X, hXl, H19, H16⟩ : ∃ X : List (BitVec 8), X.length = m ∧ Hid (∀ w : World, Calls Try.prog 19 #[.agg (encs .u8 key), .agg (encs .u8 nonce), .int .i64 (m : Int)] w (RetRow w 5 .u8 X)) ∧
        Hid (∀ (A : Option Addr) (w : World), Rd w .u8 A (List.replicate m 0#8) → Calls Try.prog 16 #[.agg (encs .u8 key), .int .u32 0, .agg (encs .u8 nonce), .slice A m m] w (RetRd w .u8 X)) :=
      ⟨_, by rw [chXor_length, List.length_replicate], Lib.hid fun w => stream_any key nonce m HK.out HN.out h1 h2 w, Lib.hid fun A w hR => by
        have := refXor_any key nonce (List.replicate m 0#8) 0#32 A m HK.out HN.out (by rw [List.length_replicate]; omega) w hR
        rw [List.length_replicate] at this
        exact this⟩
    have HXL := Lib.hid hXl
    clear hXl
    go_enter Try.func9, Try.ntmps9
    go_wp2_with fail
    refine (wakes_any _).mono ?_
    rintro e w1 ⟨rfl, hb1⟩
    have hB : Blk w1 w.heap.size (usedC key ctr nonce) 28 := (Blk.new w _ _).below hb1 (by simp)
    have hb : Below w.heap.size w w1 := ((Below.refl _ _).alloc (Nat.le_refl _) _).trans (hb1.mono (by simp))
    clear hb1
    go_wp2_with (first | (refine wpList_load_part rfl 23 _ rfl w.heap.size 0 rfl 28 _ (0, 0) _ (encL .u8 key) hB (usedC_key key ctr nonce) Try.underlying23 rfl (by rw [encL_length, HK.out]; exact size23) ?_) | (refine wpList_load_part rfl 26 _ rfl w.heap.size 33 rfl 28 _ (0, 0) _ (encL .u8 nonce) hB (usedC_nonce key ctr nonce HK.out) Try.underlying26 rfl (by rw [encL_length, HN.out]; exact size26) ?_) | fail)
    simp only [encL_toArray]
    refine (H19.out _).mono ?_
    rintro e w2 ⟨g, rfl, hB2, hg, hb2⟩
    simp only [HXL.out]
    replace hB := hB.below hb2 hB.lt
    replace hb := hb.trans (hb2.mono hb.size)
    clear hb2
    go_wp2_with fail
    refine mix_start (fun w' => Below w2.heap.size w2 w') (List.range 10) [6, 7, 8] [2, 4] [] (by kernel_rfl) (by kernel_rfl) (fun d _ _ _ _ h => by cases d <;> exact h) (Below.refl _ _).drew ?_
    repeat (refine mix_pure rfl rfl (fun K hK => ?_); go_simp; refine hK _ ?_; clear hK K)
    refine mix_load_part rfl rfl rfl rfl 23 _ rfl w.heap.size 0 rfl 28 _ (0, 0) _ (encL .u8 key) (fun w' hS => hB.below hS hB.lt) (usedC_key key ctr nonce) Try.underlying23 rfl (by rw [encL_length, HK.out]; exact size23) ?_
    repeat (refine mix_pure rfl rfl (fun K hK => ?_); go_simp; refine hK _ ?_; clear hK K)
    refine mix_load_part rfl rfl rfl rfl 26 _ rfl w.heap.size 33 rfl 28 _ (0, 0) _ (encL .u8 nonce) (fun w' hS => hB.below hS hB.lt) (usedC_nonce key ctr nonce HK.out) Try.underlying26 rfl (by rw [encL_length, HN.out]; exact size26) ?_
    repeat (refine mix_pure rfl rfl (fun K hK => ?_); go_simp; refine hK _ ?_; clear hK K)
    simp only [encL_toArray]
    refine mix_eff rfl rfl (fun K hK => ?_)
    go_simp
    refine hK _ _ (fun _ h => h.alloc h.size _) ?_
    clear hK K
    have hm : Blk (w2.alloc (.cells (encs .u8 (List.replicate m 0#8)) 5)).drew w2.heap.size (encs .u8 (List.replicate m 0#8)) 5 := Blk.new _ _ _
    have hB3 : Blk (w2.alloc (.cells (encs .u8 (List.replicate m 0#8)) 5)).drew g (encs .u8 X) 5 := hB2.alloc _
    have hb3 : Below w.heap.size w (w2.alloc (.cells (encs .u8 (List.replicate m 0#8)) 5)).drew := (hb.alloc hb.size _).drew
    clear hmk
    refine mix_eff rfl rfl (fun K hK => ?_)
    go_simp
    refine (H16.out _ _ hm.rd).mono ?_
    rintro e w4 ⟨A4, cap4, rfl, hc4, hR4, hb4⟩
    simp only [HXL.out]
    refine hK _ _ (fun _ h => h.trans (hb4.mono h.size)) ?_
    clear hK K
    have hx := bytesEqual_any X X (some ⟨g, 0, none⟩) A4 m cap4 w4 (hB3.below hb4 hB3.lt).rd hR4
    rw [HXL.out] at hx
    have Hx := Lib.hid hx
    clear hx
    replace hb3 := hb3.trans (hb4.mono hb3.size)
    refine mix_eff rfl rfl (fun K hK => ?_)
    go_simp
    refine Hx.out.mono ?_
    rintro e w5 ⟨rfl, rfl⟩
    simp only [beq_self_eq_true]
    refine hK _ _ (fun _ h => h) ?_
    clear hK K
    repeat (refine mix_pure rfl rfl (fun K hK => ?_); go_simp; refine hK _ ?_; clear hK K)
    refine mix_nil ?_
    go_wp2
    go_ret
    exact ⟨rfl, hb3⟩
end Go.Proofs.Ytdpdpeifmignnaa
