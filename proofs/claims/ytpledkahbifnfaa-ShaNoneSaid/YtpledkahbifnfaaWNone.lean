/- A nil Hash takes nothing, and a new one is of no bytes. -/
import Derived.Test.YtpledkahbifnfaaRefV
import Derived.Test.YtpledkahbifnfaaBuildG
namespace Go.Proofs.Ytpledkahbifnfaa
open Go.RowKit
set_option linter.unusedVariables false
set_option linter.unusedSimpArgs false
theorem build_key0 (w : World) : (Instr.build 28 #[]).run Try.prog w = .ok (.agg (encs .u8 z32s)) w := by kernel_rfl
set_option maxHeartbeats 2000000 in
theorem none_walk (v : Value) (w : World) : Calls Try.prog 3 #[v] w fun e w' => e = .returned (.bool true) ∧ Below w.heap.size w w' := by
  have hbk := build_key0
  have heq0 := eq_key z32s z32s rfl rfl rfl
  have heq1 := eq_key (sha []) (sha []) (sha_length _) (sha_length _) rfl
  go_enter Try.func3, Try.ntmps3
  go_wp2_with fail
  refine (wakes_any w).mono ?_
  rintro e w1 ⟨rfl, hb⟩
  go_wp2_with fail
  refine (mwrite_nil v w1).mono ?_
  rintro e w' ⟨rfl, rfl⟩
  go_wp2_with fail
  refine (sum_nil w1).mono ?_
  rintro e w2 ⟨rfl, hn⟩
  replace hb := hb.trans (hn.mono hb.size)
  clear hn
  go_wp2_with (first | (refine wpList_build_g0 rfl 28 _ rfl (.agg (encs .u8 z32s)) _ hbk (by simp) ?_) | fail)
  refine (len_nil w2).mono ?_
  rintro e w' ⟨rfl, rfl⟩
  go_wp2_with fail
  refine (copy_nil w2).mono ?_
  rintro e w' ⟨rfl, rfl⟩
  go_wp2_with fail
  refine (new_any w2).mono ?_
  rintro e w3 ⟨g, rfl, hg, hge, hn⟩
  replace hb := hb.trans (hn.mono hb.size)
  clear hn
  go_wp2_with fail
  refine (sum_any g [] w3 hg (by simp)).mono ?_
  rintro e w4 ⟨rfl, hn⟩
  replace hb := hb.trans (hn.mono hb.size)
  clear hn
  go_wp2_with fail
  refine (rsum_v (Arg.nil w4) (by simp)).mono ?_
  rintro e w5 ⟨rfl, hn⟩
  replace hb := hb.trans (hn.mono hb.size)
  go_wp2_with fail
  go_ret
  exact ⟨rfl, hb⟩
end Go.Proofs.Ytpledkahbifnfaa
