/- Not too many bytes in all. -/
import Derived.Test.YtgcdjickkbiglaaKdfHmac
namespace Go.Proofs.Ytgcdjickkbiglaa
open Go.RowKit
set_option linter.unusedVariables false
set_option linter.unusedSimpArgs false
attribute [local go_sem] min_imin
set_option maxHeartbeats 4000000 in
theorem small_any (ls : List (List (BitVec 8))) (vs : List Value) (PA : Option Addr) (pc : Nat) (w : World)
    (hP : RdV w PA vs) (hvl : vs.length = ls.length) (hrow : ∀ i, i < ls.length → RowArg w (vs.getD i undef) (ls.getD i [])) (hll : ls.length ≤ 140737488355328) :
    Calls Try.prog 11 #[.slice PA ls.length pc] w fun e w' => (e = .returned (.bool true) ∧ ls.flatten.length ≤ 4096 ∧ ls.length ≤ 100 ∨ e = .returned (.bool false)) ∧ Below w.heap.size w w' := by
  have HP := Lib.hid hP
  have HVL := Lib.hid hvl
  have HROW := Lib.hid hrow
  clear hP hvl hrow
  go_enter Try.func11, Try.ntmps11
  go_wp2_with fail
  go_loopw [3, 8] (fun vn vi wr => ∃ k n : Nat, k ≤ ls.length ∧ n ≤ 1048576 ∧ vi = .int .i64 k ∧ vn = .int .i64 n ∧ (n ≤ 4096 → (ls.take k).flatten.length = n) ∧ Below w.heap.size w wr) (fun _ vi _ => ls.length - (intOf vi).toNat)
  case atStart => exact ⟨0, 0, by omega, by omega, rfl, rfl, fun _ => by simp, Below.refl _ _⟩
  case round =>
    obtain ⟨k, n, hk, hn, rfl, rfl, hs, hb⟩ := hrel
    by_cases hlt : k < ls.length
    · have j1 : (k : Int) < (ls.length : Int) := by omega
      obtain ⟨gp, op, rfl, hcell⟩ := HP.out.below hb k (by rw [HVL.out]; exact hlt)
      have hrow := HROW.out k hlt
      have hfs := flat_succ ls k hlt
      have hfl : (ls.take (k + 1)).flatten.length = (ls.take k).flatten.length + (ls.getD k []).length := by rw [hfs, List.length_append]
      clear hfs
      generalize vs.getD k undef = pv at *
      generalize ls.getD k [] = p at *
      obtain ⟨Ap, cp, rfl, hpc, hpl, hRp⟩ := hrow
      have hadd : IntKind.i64.wrap ((n : Int) + (p.length : Int)) = (n : Int) + (p.length : Int) := IntWalk.i64_in _ (by omega)
      have hmin : imin ((n : Int) + (p.length : Int)) 1048576 = ((min (n + p.length) 1048576 : Nat) : Int) := by rw [← Int.natCast_add]; exact imin_nat _ _
      have hs2 : min (n + p.length) 1048576 ≤ 4096 → (ls.take (k + 1)).flatten.length = min (n + p.length) 1048576 := fun h => by have := hs (by omega); omega
      have hs3 : min (n + p.length) 1048576 ≤ 1048576 := Nat.min_le_right _ _
      generalize min (n + p.length) 1048576 = m at *
      have HS2 := Lib.hid hs2
      clear hs hs2 hfl hRp
      go_wp2_with fail
      go_roundw
      case rel =>
        first | exact ⟨k + 1, m, by omega, hs3, by go_num, by go_num, HS2.out, hb⟩ | ((repeat apply Exists.intro); exact ⟨⟨k + 1, m, by omega, hs3, by go_num, by go_num, HS2.out, hb⟩, rfl⟩)
      case measure => simp [intOf]; omega
    · obtain rfl : k = ls.length := by omega
      rw [List.take_length] at hs
      have j1 : ¬ (ls.length : Int) < (ls.length : Int) := by omega
      by_cases h1 : n ≤ 4096
      · have i1 : (n : Int) ≤ 4096 := by omega
        by_cases h2 : ls.length ≤ 100
        · have i2 : (ls.length : Int) ≤ 100 := by omega
          go_wp2_with fail
          go_ret
          exact ⟨by have hs1 := hs h1; first | rfl | (simp; done) | (have := hs; simp; omega) | (have := hs; simp_all), hb⟩
        · have i2 : ¬ (ls.length : Int) ≤ 100 := by omega
          go_wp2_with fail
          go_ret
          exact ⟨by first | rfl | (simp; done) | (have := hs; simp; omega) | (have := hs; simp_all), hb⟩
      · have i1 : ¬ (n : Int) ≤ 4096 := by omega
        go_wp2_with fail
        go_ret
        exact ⟨by first | rfl | (simp; done) | (have := hs; simp; omega) | (have := hs; simp_all), hb⟩
end Go.Proofs.Ytgcdjickkbiglaa
