/- The walk of ChachaBack. -/
import Derived.Test.YtdpdpeifmignnaaWQuarters
import Derived.Test.YtdpdpeifmignnaaRot
namespace Go.Proofs.Ytdpdpeifmignnaa
open Go.RowKit
set_option maxHeartbeats 4000000 in
theorem back_walk (a b c d : BitVec 32) (w : World) : Calls Try.prog 5 #[.agg #[.int .u32 (wb a), .int .u32 (wb b), .int .u32 (wb c), .int .u32 (wb d)]] w fun e w' => e = .returned (.bool true) ∧ Below w.heap.size w w' := by
  go_enter Try.func5, Try.ntmps5
  go_wp2_with fail
  refine (wakes_any _).mono ?_
  rintro e w1 ⟨rfl, hb1⟩
  have hB : Blk w1 w.heap.size (encs .u32 [a, b, c, d]) 33 := (Blk.new w _ _).below hb1 (by simp)
  have h0 := hB.word 0 (by simp)
  have h1 := hB.word 1 (by simp)
  have h2 := hB.word 2 (by simp)
  have h3 := hB.word 3 (by simp)
  simp only [List.getD_cons_zero, List.getD_cons_succ] at h0 h1 h2 h3
  have hb : Below w.heap.size w w1 := ((Below.refl _ _).alloc (Nat.le_refl _) _).trans (hb1.mono (by simp))
  clear hb1
  go_wp2_with fail
  refine (quarter_any _ _ _ _ _).mono ?_
  rintro e w' ⟨rfl, rfl⟩
  generalize hq : qr a b c d = q
  have HQ := Lib.hid hq
  clear hq
  go_wp2_with fail
  refine (back_any _ _ _ _ _).mono ?_
  rintro e w2 ⟨rfl, hb2⟩
  generalize hu : unqr a b c d = u
  have HU := Lib.hid hu
  clear hu
  go_wp2_with fail
  have hqu : qr u.a u.b u.c u.d = ⟨a, b, c, d⟩ := by rw [← HU.out]; exact qr_unqr a b c d
  refine (quarter_any _ _ _ _ _).mono ?_
  rintro e w' ⟨rfl, rfl⟩
  simp only [hqu]
  clear hqu
  have hsz := hb2.size
  have hB2 : Blk w2 w.heap.size (encs .u32 [a, b, c, d]) 33 := hB.below hb2 hB.lt
  have hB3 : Blk (w2.alloc (.cells #[.int .u32 (wb u.a), .int .u32 (wb u.b), .int .u32 (wb u.c), .int .u32 (wb u.d)] 33)) w.heap.size (encs .u32 [a, b, c, d]) 33 := hB2.alloc _
  have hb3 := (hb.trans (hb2.mono hb.size)).alloc (Nat.le_trans hb.size hb2.size) (.cells #[.int .u32 (wb u.a), .int .u32 (wb u.b), .int .u32 (wb u.c), .int .u32 (wb u.d)] 33)
  clear h0 h1 h2 h3 hB hB2 hb2
  go_wp2_with fail
  generalize (w2.alloc (.cells #[.int .u32 (wb u.a), .int .u32 (wb u.b), .int .u32 (wb u.c), .int .u32 (wb u.d)] 33)) = w3 at *
  have heq : ∀ wx, (Op.equalIn 10000 33 (.agg #[.int .u32 (wb a), .int .u32 (wb b), .int .u32 (wb c), .int .u32 (wb d)]) (.agg #[.int .u32 (wb a), .int .u32 (wb b), .int .u32 (wb c), .int .u32 (wb d)])).run Try.prog wx = .ok true wx :=
    fun wx => eq4 [a, b, c, d] _ rfl rfl rfl wx
  refine mix_start (fun w' => Below w3.heap.size w3 w') [0, 1, 2, 3, 4, 6, 5, 7, 8, 9, 10, 11, 12, 13, 14, 15, 16, 17] [5] [6, 14] [] (by kernel_rfl) (by kernel_rfl) (fun d _ _ _ _ h => by cases d <;> exact h) (Below.refl _ _).drew ?_
  repeat (refine mix_pure rfl rfl (fun K hK => ?_); go_simp; refine hK _ ?_; clear hK K)
  refine mix_load_row rfl rfl rfl rfl 33 _ rfl w.heap.size rfl (encs .u32 [a, b, c, d]) 33 (0, 0) _ (fun w' hs => hB3.below hs hB3.lt) Try.underlying33 rfl (by kernel_rfl) ?_
  refine mix_eff rfl rfl (fun K hK => ?_)
  go_simp
  refine (back_any _ _ _ _ _).mono ?_
  rintro e w4 ⟨rfl, hb4⟩
  have hqq : unqr q.a q.b q.c q.d = ⟨a, b, c, d⟩ := by rw [← HQ.out]; exact unqr_qr a b c d
  simp only [hqq]
  clear hqq
  refine hK _ _ (fun _ hs => hs.trans (hb4.mono hs.size)) ?_
  clear hK K
  have hE : encs .u32 [a, b, c, d] = #[.int .u32 (wb a), .int .u32 (wb b), .int .u32 (wb c), .int .u32 (wb d)] := rfl
  repeat (refine mix_pure rfl rfl (fun K hK => ?_); go_simp; refine hK _ ?_; clear hK K)
  refine mix_load_row rfl rfl rfl rfl 33 _ rfl w.heap.size rfl (encs .u32 [a, b, c, d]) 33 (0, 0) _ (fun w' hs => hB3.below hs hB3.lt) Try.underlying33 rfl (by kernel_rfl) ?_
  repeat (refine mix_pure rfl rfl (fun K hK => ?_); go_simp; refine hK _ ?_; clear hK K)
  refine mix_nil ?_
  go_wp2
  go_ret
  exact ⟨rfl, hb3.drew.trans (hb4.mono hb3.size)⟩
end Go.Proofs.Ytdpdpeifmignnaa
