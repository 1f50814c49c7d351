/- How many hops a size is of, by the reference (printed by genhops.py). -/
import Derived.Test.YtjnbgoiaocpcjaaFrPk
namespace Go.Proofs.Ytjnbgoiaocpcjaa
open Go.RowKit
set_option linter.unusedVariables false
set_option linter.unusedSimpArgs false
set_option maxHeartbeats 1000000 in
theorem rends_any (c s : Int) (r : BitVec 64) (w : World) : Calls Try.prog 31 #[.int .i64 c, .int .i64 s, .int .u64 (wb r)] w fun e w' => e = .returned (.bool (endsB c s r)) ∧ w = w' := by
  unfold endsB
  generalize wb r = x
  by_cases h1 : 0 ≤ c <;> by_cases h2 : c < 4 <;> by_cases h3 : 0 ≤ s <;> by_cases h4 : s < 3 <;> by_cases h5 : 0 < x
  all_goals (go_enter Try.func31, Try.ntmps31; go_wp2_with fail; go_ret; exact ⟨by simp [h1, h2, h3, h4, h5], rfl⟩)
set_option maxHeartbeats 1000000 in
theorem hops_onion (n : Int) (w : World) :
    Calls Try.prog 62 #[.int .i64 n, .int .i64 146, .int .i64 48] w fun e w' => (∃ h : Int, e = .returned (.int .i64 h) ∧ 0 ≤ h ∧ decide (0 < h) = (decide (n = 194) || decide (n = 242) || decide (n = 290))) ∧ w = w' := by
  go_enter Try.func62, Try.ntmps62
  go_wp2_with fail
  go_loopw [7] (fun vi wr => ∃ k : Nat, k ≤ 3 ∧ vi = .int .i64 ((k : Int) + 1) ∧ (∀ j : Nat, j < k → n ≠ 194 + 48 * (j : Int)) ∧ w = wr) (fun vi _ => 4 - (intOf vi).toNat)
  case atStart => exact ⟨0, by omega, rfl, fun j hj => by omega, rfl⟩
  case round =>
    obtain ⟨k, hk, rfl, hno, rfl⟩ := hrel
    have HNO := Lib.hid hno
    clear hno
    by_cases hlt : k < 3
    · have j1 : (k : Int) + 1 ≤ 3 := by omega
      have h3 : IntKind.i64.wrap (48 * ((k : Int) + 1)) = 48 * ((k : Int) + 1) := IntWalk.i64_in _ (by omega)
      have h4 : IntKind.i64.wrap (146 + 48 * ((k : Int) + 1)) = 194 + 48 * (k : Int) := by rw [IntWalk.i64_in _ (by omega)]; omega
      by_cases hn : n = 194 + 48 * (k : Int)
      · have hr : decide (0 < (k : Int) + 1) = (decide (n = 194) || decide (n = 242) || decide (n = 290)) := by
          rw [decide_eq_true (by omega)]
          symm
          simp
          omega
        have HR := Lib.hid hr
        clear hr
        go_wp2_with fail
        go_ret
        exact ⟨⟨_, rfl, by omega, HR.out⟩, rfl⟩
      · go_wp2_with fail
        exact ⟨⟨k + 1, by omega, by go_num, fun j hj => by
          by_cases hjk : j = k
          · subst hjk; omega
          · exact HNO.out j (by omega), by first | rfl | trivial⟩, by simp [intOf]; omega⟩
    · obtain rfl : k = 3 := by omega
      have hr : decide (0 < (0 : Int)) = (decide (n = 194) || decide (n = 242) || decide (n = 290)) := by
        have h0 := HNO.out 0 (by omega)
        have h1 := HNO.out 1 (by omega)
        have h2 := HNO.out 2 (by omega)
        symm
        simp
        omega
      have HR := Lib.hid hr
      clear hr
      go_wp2_with fail
      go_ret
      exact ⟨⟨0, rfl, by omega, HR.out⟩, rfl⟩
theorem ronion_any (n : Int) (w : World) :
    Calls Try.prog 32 #[.int .i64 n] w fun e w' => (∃ h : Int, e = .returned (.int .i64 h) ∧ 0 ≤ h ∧ decide (0 < h) = (decide (n = 194) || decide (n = 242) || decide (n = 290))) ∧ w = w' := by
  go_enter Try.func32, Try.ntmps32
  go_wp2_with fail
  refine (hops_onion n w).mono ?_
  rintro e w' ⟨⟨h, rfl, h0, h1⟩, rfl⟩
  go_wp2_with fail
  go_ret
  exact ⟨⟨_, rfl, h0, h1⟩, rfl⟩
set_option maxHeartbeats 1000000 in
theorem hops_reply (n : Int) (w : World) :
    Calls Try.prog 62 #[.int .i64 n, .int .i64 130, .int .i64 16] w fun e w' => (∃ h : Int, e = .returned (.int .i64 h) ∧ 0 ≤ h ∧ decide (0 < h) = (decide (n = 146) || decide (n = 162) || decide (n = 178))) ∧ w = w' := by
  go_enter Try.func62, Try.ntmps62
  go_wp2_with fail
  go_loopw [7] (fun vi wr => ∃ k : Nat, k ≤ 3 ∧ vi = .int .i64 ((k : Int) + 1) ∧ (∀ j : Nat, j < k → n ≠ 146 + 16 * (j : Int)) ∧ w = wr) (fun vi _ => 4 - (intOf vi).toNat)
  case atStart => exact ⟨0, by omega, rfl, fun j hj => by omega, rfl⟩
  case round =>
    obtain ⟨k, hk, rfl, hno, rfl⟩ := hrel
    have HNO := Lib.hid hno
    clear hno
    by_cases hlt : k < 3
    · have j1 : (k : Int) + 1 ≤ 3 := by omega
      have h3 : IntKind.i64.wrap (16 * ((k : Int) + 1)) = 16 * ((k : Int) + 1) := IntWalk.i64_in _ (by omega)
      have h4 : IntKind.i64.wrap (130 + 16 * ((k : Int) + 1)) = 146 + 16 * (k : Int) := by rw [IntWalk.i64_in _ (by omega)]; omega
      by_cases hn : n = 146 + 16 * (k : Int)
      · have hr : decide (0 < (k : Int) + 1) = (decide (n = 146) || decide (n = 162) || decide (n = 178)) := by
          rw [decide_eq_true (by omega)]
          symm
          simp
          omega
        have HR := Lib.hid hr
        clear hr
        go_wp2_with fail
        go_ret
        exact ⟨⟨_, rfl, by omega, HR.out⟩, rfl⟩
      · go_wp2_with fail
        exact ⟨⟨k + 1, by omega, by go_num, fun j hj => by
          by_cases hjk : j = k
          · subst hjk; omega
          · exact HNO.out j (by omega), by first | rfl | trivial⟩, by simp [intOf]; omega⟩
    · obtain rfl : k = 3 := by omega
      have hr : decide (0 < (0 : Int)) = (decide (n = 146) || decide (n = 162) || decide (n = 178)) := by
        have h0 := HNO.out 0 (by omega)
        have h1 := HNO.out 1 (by omega)
        have h2 := HNO.out 2 (by omega)
        symm
        simp
        omega
      have HR := Lib.hid hr
      clear hr
      go_wp2_with fail
      go_ret
      exact ⟨⟨0, rfl, by omega, HR.out⟩, rfl⟩
theorem rreply_any (n : Int) (w : World) :
    Calls Try.prog 34 #[.int .i64 n] w fun e w' => (∃ h : Int, e = .returned (.int .i64 h) ∧ 0 ≤ h ∧ decide (0 < h) = (decide (n = 146) || decide (n = 162) || decide (n = 178))) ∧ w = w' := by
  go_enter Try.func34, Try.ntmps34
  go_wp2_with fail
  refine (hops_reply n w).mono ?_
  rintro e w' ⟨⟨h, rfl, h0, h1⟩, rfl⟩
  go_wp2_with fail
  go_ret
  exact ⟨⟨_, rfl, h0, h1⟩, rfl⟩
end Go.Proofs.Ytjnbgoiaocpcjaa
