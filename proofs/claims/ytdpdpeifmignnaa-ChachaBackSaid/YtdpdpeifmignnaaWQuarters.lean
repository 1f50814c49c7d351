/- The walk of ChachaQuarters. -/
import Derived.Test.YtdpdpeifmignnaaWakes
import Derived.Test.YtdpdpeifmignnaaArrEq
namespace Go.Proofs.Ytdpdpeifmignnaa
open Go.RowKit
theorem eq4 (l m : List (BitVec 32)) (hl : l.length = 4) (hm : m.length = 4) (h : l = m) (wx : World) : (Op.equalIn 10000 33 (.agg (encs .u32 l)) (.agg (encs .u32 m))).run Try.prog wx = .ok true wx := by
  subst h
  rw [show (10000 : Nat) = 9998 + 2 from rfl, run_equalIn_encs wx 9998 33 24 .u32 4 Try.underlying33 Try.underlying24 size24 l l hl hm]
  simp
set_option maxHeartbeats 2000000 in
theorem quarters_walk (a b c d : BitVec 32) (w : World) : Calls Try.prog 4 #[.agg #[.int .u32 (wb a), .int .u32 (wb b), .int .u32 (wb c), .int .u32 (wb d)]] w fun e w' => e = .returned (.bool true) ∧ Below w.heap.size w w' := by
  have heq : ∀ wx, (Op.equalIn 10000 33 (.agg #[.int .u32 (wb (qr a b c d).a), .int .u32 (wb (qr a b c d).b), .int .u32 (wb (qr a b c d).c), .int .u32 (wb (qr a b c d).d)]) (.agg #[.int .u32 (wb (qr a b c d).a), .int .u32 (wb (qr a b c d).b), .int .u32 (wb (qr a b c d).c), .int .u32 (wb (qr a b c d).d)])).run Try.prog wx = .ok true wx :=
    fun wx => eq4 [(qr a b c d).a, (qr a b c d).b, (qr a b c d).c, (qr a b c d).d] _ rfl rfl rfl wx
  go_enter Try.func4, Try.ntmps4
  go_wp2_with fail
  refine (wakes_any _).mono ?_
  rintro e w1 ⟨rfl, hb1⟩
  have hB : Blk w1 w.heap.size (encs .u32 [a, b, c, d]) 33 := (Blk.new w _ _).below hb1 (by simp)
  have h0 := hB.word 0 (by simp)
  have h1 := hB.word 1 (by simp)
  have h2 := hB.word 2 (by simp)
  have h3 := hB.word 3 (by simp)
  simp only [List.getD_cons_zero, List.getD_cons_succ] at h0 h1 h2 h3
  have hb : Below w.heap.size w w1 := ((Below.refl _ _).alloc (Nat.le_refl _) _).trans (hb1.mono (by simp))
  clear hb1
  go_wp2_with fail
  refine (quarter_any _ _ _ _ _).mono ?_
  rintro e w' ⟨rfl, rfl⟩
  go_wp2_with fail
  refine (refQuarter_any _ _ _ _ _).mono ?_
  rintro e w2 ⟨rfl, hb2⟩
  clear h0 h1 h2 h3 hB
  go_wp2
  go_ret
  exact ⟨rfl, hb.trans (hb2.mono hb.size)⟩
end Go.Proofs.Ytdpdpeifmignnaa
