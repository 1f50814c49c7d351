/- With what so many bytes are filled up; for every number. -/
import Derived.Test.YtpledkahbifnfaaRefV
namespace Go.Proofs.Ytpledkahbifnfaa
open Go.RowKit
set_option linter.unusedVariables false
set_option linter.unusedSimpArgs false
set_option maxHeartbeats 1000000 in
theorem pads_walk (n : Int) (w : World) : Calls Try.prog 9 #[.int .i64 n] w fun e w' => e = .returned (.bool true) ∧ Below w.heap.size w w' := by
  go_enter Try.func9, Try.ntmps9
  go_wp2_with fail
  refine (wakes_any w).mono ?_
  rintro e w1 ⟨rfl, hb⟩
  go_wp2_with fail
  have hr := Int.tmod_lt_of_pos n (show (0 : Int) < 1099511627776 by omega)
  generalize n.tmod 1099511627776 = r at *
  by_cases h0 : r < 0
  · refine (pad_neg r h0 w1).mono ?_
    rintro e w' ⟨rfl, rfl⟩
    go_wp2_with fail
    refine (rpad_neg r h0 w1).mono ?_
    rintro e w' ⟨rfl, rfl⟩
    go_wp2_with fail
    refine (bytesEqual_v (Arg.nil w1) (Arg.nil w1)).mono ?_
    rintro e w' ⟨rfl, rfl⟩
    go_wp2_with fail
    go_ret
    exact ⟨by simp, hb⟩
  · obtain ⟨m, rfl⟩ := Int.eq_ofNat_of_zero_le (show 0 ≤ r by omega)
    refine (pad_any m (by omega) w1).mono ?_
    rintro e w2 ⟨v2, rfl, h2, hn⟩
    replace h2 : OwnB w2 _ v2 (shaPad m) := h2
    replace hb := hb.trans (hn.mono hb.size)
    clear hn
    go_wp2_with fail
    refine (rpad_any m (by omega) w2).mono ?_
    rintro e w3 ⟨v3, rfl, h3, hn⟩
    replace h3 : OwnB w3 _ v3 (shaPad m) := h3
    replace hb := hb.trans (hn.mono hb.size)
    go_wp2_with fail
    refine (bytesEqual_v (h2.arg.below hn) h3.arg).mono ?_
    rintro e w' ⟨rfl, rfl⟩
    go_wp2_with fail
    go_ret
    exact ⟨by simp, hb⟩
end Go.Proofs.Ytpledkahbifnfaa
