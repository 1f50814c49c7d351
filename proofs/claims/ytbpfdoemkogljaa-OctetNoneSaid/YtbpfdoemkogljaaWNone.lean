/- The walk of OctetNone. -/
import Derived.Test.YtbpfdoemkogljaaWakes
import Derived.Test.YtbpfdoemkogljaaArrEq
namespace Go.Proofs.Ytbpfdoemkogljaa
open Go.RowKit
set_option maxHeartbeats 2000000 in
theorem none_walk (n : Int) (w : World) : Calls Try.prog 5 #[.int .i64 n] w fun e w' => e = .returned (.bool true) ∧ Below w.heap.size w w' := by
  obtain ⟨Z, hZ⟩ : ∃ Z, Z = encs .u8 (List.replicate 32 (0 : BitVec 8)) := ⟨_, rfl⟩
  have k1 : ∀ wx, (Op.equalIn 10000 51 (.agg Z) (.agg #[Value.int .u8 0, Value.int .u8 0, Value.int .u8 0, Value.int .u8 0, Value.int .u8 0, Value.int .u8 0, Value.int .u8 0, Value.int .u8 0, Value.int .u8 0, Value.int .u8 0, Value.int .u8 0, Value.int .u8 0, Value.int .u8 0, Value.int .u8 0, Value.int .u8 0, Value.int .u8 0, Value.int .u8 0, Value.int .u8 0, Value.int .u8 0, Value.int .u8 0, Value.int .u8 0, Value.int .u8 0, Value.int .u8 0, Value.int .u8 0, Value.int .u8 0, Value.int .u8 0, Value.int .u8 0, Value.int .u8 0, Value.int .u8 0, Value.int .u8 0, Value.int .u8 0, Value.int .u8 0])).run Try.prog wx = .ok true wx := fun wx => by
    rw [hZ]
    exact run_equalIn_encs (P := Try.prog) wx 9998 51 5 .u8 32 Try.underlying51 Try.underlying5 (by kernel_rfl) (List.replicate 32 (0 : BitVec 8)) (List.replicate 32 (0 : BitVec 8)) (by simp) (by simp)
  have HZ := Lib.hid hZ
  clear hZ
  go_enter Try.func5, Try.ntmps5
  go_wp2_with fail
  refine (wakes_any w).mono ?_
  rintro e w1 ⟨rfl, hb⟩
  go_wp2_with fail
  refine (u16_nil _).mono ?_
  rintro e w2 ⟨rfl, rfl⟩
  go_wp2_with fail
  refine (u32_nil _).mono ?_
  rintro e w2 ⟨rfl, rfl⟩
  go_wp2_with fail
  refine (u64_nil _).mono ?_
  rintro e w2 ⟨rfl, rfl⟩
  go_wp2_with fail
  refine (raw_nil n _).mono ?_
  rintro e w2 ⟨rfl, rfl⟩
  go_wp2_with fail
  refine (key_nil _).mono ?_
  rintro e w2 ⟨rfl, hb2⟩
  rw [← HZ.out]
  replace hb := hb.trans (hb2.mono hb.size)
  clear hb2
  go_wp2_with fail
  refine (left_nil _).mono ?_
  rintro e w3 ⟨rfl, rfl⟩
  go_wp2_with fail
  refine (err_nil _).mono ?_
  rintro e w3 ⟨rfl, rfl⟩
  go_wp2_with fail
  go_ret
  exact ⟨rfl, hb⟩
end Go.Proofs.Ytbpfdoemkogljaa
