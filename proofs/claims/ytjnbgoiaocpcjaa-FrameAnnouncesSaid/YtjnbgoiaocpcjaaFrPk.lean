/- Which packets may be: their ends and sizes. -/
import Derived.Test.YtjnbgoiaocpcjaaOctV
import Derived.Test.YtjnbgoiaocpcjaaApp
namespace Go.Proofs.Ytjnbgoiaocpcjaa
open Go.RowKit
set_option linter.unusedVariables false
set_option linter.unusedSimpArgs false
def endsB (c s : Int) (r : BitVec 64) : Bool := decide (0 ≤ c) && decide (c < 4) && decide (0 ≤ s) && decide (s < 3) && decide (0 < wb r)
def sizeB (first each n : Nat) : Bool := decide (n = first + each) || decide (n = first + 2 * each) || decide (n = first + 3 * each)
set_option maxHeartbeats 1000000 in
theorem ends_any (c s : Int) (r : BitVec 64) (w : World) : Calls Try.prog 59 #[.int .i64 c, .int .i64 s, .int .u64 (wb r)] w fun e w' => e = .returned (.bool (endsB c s r)) ∧ w = w' := by
  unfold endsB
  generalize wb r = x
  by_cases h1 : 0 ≤ c <;> by_cases h2 : c < 4 <;> by_cases h3 : 0 ≤ s <;> by_cases h4 : s < 3 <;> by_cases h5 : 0 < x
  all_goals (go_enter Try.func59, Try.ntmps59; go_wp2_with fail; go_ret; exact ⟨by simp [h1, h2, h3, h4, h5], rfl⟩)
set_option maxHeartbeats 1000000 in
theorem onion_at (k : Nat) (hk : k < 3) (w : World) : Calls Try.prog 12 #[.int .i64 ((k : Int) + 1)] w fun e w' => e = .returned (.int .i64 (194 + 48 * (k : Int))) ∧ w = w' := by
  have h1 : ¬ (k : Int) + 1 < 1 := by omega
  have h2 : ¬ (3 : Int) < (k : Int) + 1 := by omega
  have h3 : IntKind.i64.wrap (48 * ((k : Int) + 1)) = 48 * ((k : Int) + 1) := IntWalk.i64_in _ (by omega)
  have h4 : IntKind.i64.wrap (146 + 48 * ((k : Int) + 1)) = 194 + 48 * (k : Int) := by rw [IntWalk.i64_in _ (by omega)]; omega
  go_enter Try.func12, Try.ntmps12
  go_wp2_with fail
  go_ret
  exact ⟨rfl, rfl⟩
set_option maxHeartbeats 1000000 in
theorem reply_at (k : Nat) (hk : k < 3) (w : World) : Calls Try.prog 13 #[.int .i64 ((k : Int) + 1)] w fun e w' => e = .returned (.int .i64 (146 + 16 * (k : Int))) ∧ w = w' := by
  have h1 : ¬ (k : Int) + 1 < 1 := by omega
  have h2 : ¬ (3 : Int) < (k : Int) + 1 := by omega
  have h3 : IntKind.i64.wrap (16 * ((k : Int) + 1)) = 16 * ((k : Int) + 1) := IntWalk.i64_in _ (by omega)
  have h4 : IntKind.i64.wrap (130 + 16 * ((k : Int) + 1)) = 146 + 16 * (k : Int) := by rw [IntWalk.i64_in _ (by omega)]; omega
  go_enter Try.func13, Try.ntmps13
  go_wp2_with fail
  go_ret
  exact ⟨rfl, rfl⟩
set_option maxHeartbeats 1000000 in
theorem sized_onion (n : Int) (w : World) :
    Calls Try.prog 60 #[.int .i64 n, .func (.func 12) #[] #[]] w fun e w' => e = .returned (.bool (decide (n = 194) || decide (n = 242) || decide (n = 290))) ∧ w = w' := by
  go_enter Try.func60, Try.ntmps60
  go_wp2_with fail
  go_loopw [5] (fun vi wr => ∃ k : Nat, k ≤ 3 ∧ vi = .int .i64 ((k : Int) + 1) ∧ (∀ j : Nat, j < k → n ≠ 194 + 48 * (j : Int)) ∧ w = wr) (fun vi _ => 4 - (intOf vi).toNat)
  case atStart => exact ⟨0, by omega, rfl, fun j hj => by omega, rfl⟩
  case round =>
    obtain ⟨k, hk, rfl, hno, rfl⟩ := hrel
    have HNO := Lib.hid hno
    clear hno
    by_cases hlt : k < 3
    · have j1 : (k : Int) + 1 ≤ 3 := by omega
      go_wp2_with fail
      refine (onion_at k hlt w).mono ?_
      rintro e w' ⟨rfl, rfl⟩
      by_cases hn : 194 + 48 * (k : Int) = n
      · have hr : (decide (n = 194) || decide (n = 242) || decide (n = 290)) = true := by simp; omega
        have HR := Lib.hid hr
        clear hr
        go_wp2_with fail
        go_ret
        exact ⟨by rw [HR.out]; rfl, rfl⟩
      · go_wp2_with fail
        exact ⟨⟨k + 1, by omega, by go_num, fun j hj => by
          by_cases hjk : j = k
          · subst hjk; omega
          · exact HNO.out j (by omega), by first | rfl | trivial⟩, by simp [intOf]; omega⟩
    · obtain rfl : k = 3 := by omega
      have hr : (decide (n = 194) || decide (n = 242) || decide (n = 290)) = false := by
        have h0 := HNO.out 0 (by omega)
        have h1 := HNO.out 1 (by omega)
        have h2 := HNO.out 2 (by omega)
        simp
        omega
      have HR := Lib.hid hr
      clear hr
      go_wp2_with fail
      go_ret
      exact ⟨by rw [HR.out]; rfl, rfl⟩
set_option maxHeartbeats 1000000 in
theorem sized_reply (n : Int) (w : World) :
    Calls Try.prog 60 #[.int .i64 n, .func (.func 13) #[] #[]] w fun e w' => e = .returned (.bool (decide (n = 146) || decide (n = 162) || decide (n = 178))) ∧ w = w' := by
  go_enter Try.func60, Try.ntmps60
  go_wp2_with fail
  go_loopw [5] (fun vi wr => ∃ k : Nat, k ≤ 3 ∧ vi = .int .i64 ((k : Int) + 1) ∧ (∀ j : Nat, j < k → n ≠ 146 + 16 * (j : Int)) ∧ w = wr) (fun vi _ => 4 - (intOf vi).toNat)
  case atStart => exact ⟨0, by omega, rfl, fun j hj => by omega, rfl⟩
  case round =>
    obtain ⟨k, hk, rfl, hno, rfl⟩ := hrel
    have HNO := Lib.hid hno
    clear hno
    by_cases hlt : k < 3
    · have j1 : (k : Int) + 1 ≤ 3 := by omega
      go_wp2_with fail
      refine (reply_at k hlt w).mono ?_
      rintro e w' ⟨rfl, rfl⟩
      by_cases hn : 146 + 16 * (k : Int) = n
      · have hr : (decide (n = 146) || decide (n = 162) || decide (n = 178)) = true := by simp; omega
        have HR := Lib.hid hr
        clear hr
        go_wp2_with fail
        go_ret
        exact ⟨by rw [HR.out]; rfl, rfl⟩
      · go_wp2_with fail
        exact ⟨⟨k + 1, by omega, by go_num, fun j hj => by
          by_cases hjk : j = k
          · subst hjk; omega
          · exact HNO.out j (by omega), by first | rfl | trivial⟩, by simp [intOf]; omega⟩
    · obtain rfl : k = 3 := by omega
      have hr : (decide (n = 146) || decide (n = 162) || decide (n = 178)) = false := by
        have h0 := HNO.out 0 (by omega)
        have h1 := HNO.out 1 (by omega)
        have h2 := HNO.out 2 (by omega)
        simp
        omega
      have HR := Lib.hid hr
      clear hr
      go_wp2_with fail
      go_ret
      exact ⟨by rw [HR.out]; rfl, rfl⟩
end Go.Proofs.Ytjnbgoiaocpcjaa
