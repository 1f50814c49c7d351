/- chacha.Stream: the stream's first bytes. -/
import Derived.Test.YtdpdpeifmignnaaXor
import Derived.Test.YtdpdpeifmignnaaArrEq
namespace Go.Proofs.Ytdpdpeifmignnaa
open Go.RowKit
set_option maxHeartbeats 2000000 in
theorem stream_any (key nonce : List (BitVec 8)) (n : Nat) (hk : key.length = 32) (hn : nonce.length = 12) (h1 : 1 ≤ n) (h2 : n ≤ 65536) (w : World) :
   Calls Try.prog 19 #[.agg (encs .u8 key), .agg (encs .u8 nonce), .int .i64 (n : Int)] w (RetRow w 5 .u8 (chXor key 0#32 nonce (List.replicate n 0#8))) := by
  have HK := Lib.hid hk
  have HN := Lib.hid hn
  clear hk hn
  obtain ⟨X, HX, hXl, hxor⟩ : ∃ X, Hid (X = chXor key 0#32 nonce (List.replicate n 0#8)) ∧ X.length = n ∧ ∀ (A : Option Addr) (w : World), Rd w .u8 A (List.replicate n 0#8) → Calls Try.prog 17 #[.agg (encs .u8 key), .int .u32 0, .agg (encs .u8 nonce), .slice A n n] w (RetRow w 5 .u8 X) :=
    ⟨_, Lib.hid rfl, by rw [chXor_length, List.length_replicate], fun A w hR => by
      have := xor_any key nonce (List.replicate n 0#8) 0#32 A n HK.out HN.out (by rw [List.length_replicate]; omega) w hR
      rw [List.length_replicate] at this
      exact this⟩
  have HXL := Lib.hid hXl
  have Hxor := Lib.hid hxor
  clear hXl hxor
  rw [← HX.out]
  clear HX
  have hmk := fun wx => run_make_words (P := Try.prog) 38 5 .u8 8 1 Try.underlying38 mem5 n (by omega) (by omega) wx
  have i1 : ¬ ((n : Int) < 1) := by omega
  have i2 : ¬ ((65536 : Int) < (n : Int)) := by omega
  go_enter Try.func19, Try.ntmps19
  go_wp2_with fail
  have hb : Below w.heap.size w ((w.alloc (.cells (encs .u8 key) 23)).alloc (.cells (encs .u8 nonce) 26)) := ((Below.refl _ _).alloc (by omega) _).alloc (by simp) _
  have hB0 : Blk ((w.alloc (.cells (encs .u8 key) 23)).alloc (.cells (encs .u8 nonce) 26)) w.heap.size (encs .u8 key) 23 := (Blk.new_at _ _ _ _ rfl).alloc _
  have hB1 : Blk ((w.alloc (.cells (encs .u8 key) 23)).alloc (.cells (encs .u8 nonce) 26)) (w.heap.size + 1) (encs .u8 nonce) 26 := Blk.new_at _ _ _ _ (by simp)
  generalize (w.alloc (.cells (encs .u8 key) 23)).alloc (.cells (encs .u8 nonce) 26) = w1 at *
  refine mix_start (fun w' => Below w1.heap.size w1 w') (List.range 6) [3, 4] [0, 1] [] (by kernel_rfl) (by kernel_rfl) (fun d _ _ _ _ h => by cases d <;> exact h) (Below.refl _ _).drew ?_
  refine mix_load_row rfl rfl rfl rfl 23 _ rfl w.heap.size rfl _ 23 (0, 0) _ (fun w' hS => hB0.below hS hB0.lt) Try.underlying23 rfl (by rw [encs_size, HK.out]; exact size23) ?_
  refine mix_load_row rfl rfl rfl rfl 26 _ rfl (w.heap.size + 1) rfl _ 26 (0, 0) _ (fun w' hS => hB1.below hS hB1.lt) Try.underlying26 rfl (by rw [encs_size, HN.out]; exact size26) ?_
  repeat (refine mix_pure rfl rfl (fun K hK => ?_); go_simp; refine hK _ ?_; clear hK K)
  refine mix_eff rfl rfl (fun K hK => ?_)
  go_simp
  refine hK _ _ (fun _ h => h.alloc h.size _) ?_
  clear hK K
  have hm : Blk (w1.alloc (.cells (encs .u8 (List.replicate n 0#8)) 5)) w1.heap.size (encs .u8 (List.replicate n 0#8)) 5 := Blk.new _ _ _
  refine mix_eff rfl rfl (fun K hK => ?_)
  go_simp
  refine (Hxor.out _ (w1.alloc (.cells (encs .u8 (List.replicate n 0#8)) 5)).drew (Blk.rd (w := (w1.alloc (.cells (encs .u8 (List.replicate n 0#8)) 5)).drew) hm)).mono ?_
  rintro e w2 ⟨g, rfl, hB2, hg, hb2⟩
  refine hK _ _ (fun _ h => h.trans (hb2.mono h.size)) ?_
  clear hK K
  replace hb := (hb.alloc hb.size _).drew.trans (hb2.mono (hb.alloc hb.size (.cells (encs .u8 (List.replicate n 0#8)) 5)).size)
  have hg' : w.heap.size ≤ g := by
    have := hb.size
    simp at hg
    have h3 := hB0.lt
    omega
  rw [HXL.out]
  repeat (refine mix_pure rfl rfl (fun K hK => ?_); go_simp; refine hK _ ?_; clear hK K)
  refine mix_nil ?_
  go_wp2
  go_ret
  exact ⟨g, by rw [HXL.out]; rfl, hB2, hg', hb⟩
set_option maxHeartbeats 2000000 in
theorem stream_none (key nonce : List (BitVec 8)) (n : Int) (h : n < 1 ∨ 65536 < n) (w : World) :
   Calls Try.prog 19 #[.agg (encs .u8 key), .agg (encs .u8 nonce), .int .i64 n] w fun e w' => e = .returned (.slice none 0 0) ∧ Below w.heap.size w w' := by
  have hb : Below w.heap.size w ((w.alloc (.cells (encs .u8 key) 23)).alloc (.cells (encs .u8 nonce) 26)) := ((Below.refl _ _).alloc (by omega) _).alloc (by simp) _
  by_cases h1 : n < 1
  · go_enter Try.func19, Try.ntmps19
    go_wp2
    go_ret
    exact ⟨rfl, hb⟩
  · have h2 : 65536 < n := by omega
    clear h
    go_enter Try.func19, Try.ntmps19
    go_wp2
    go_ret
    exact ⟨rfl, hb⟩
end Go.Proofs.Ytdpdpeifmignnaa
