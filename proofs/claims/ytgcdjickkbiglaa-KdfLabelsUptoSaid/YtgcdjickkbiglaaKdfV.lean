/- The contracts of octet, sha and their references at values that read as bytes. -/
import Derived.Test.YtgcdjickkbiglaaKdfRows
import Derived.Test.YtgcdjickkbiglaaOctBoth
import Derived.WalkSmall
namespace Go.Proofs.Ytgcdjickkbiglaa
open Go.RowKit
set_option linter.unusedVariables false
theorem eq_key (a b : List (BitVec 8)) (ha : a.length = 32) (hb : b.length = 32) (h : a = b) (w : World) : (Op.equalIn 10000 25 (.agg (encs .u8 a)) (.agg (encs .u8 b))).run Try.prog w = .ok true w := by
  subst h
  rw [run_equalIn_encs w 9998 25 5 .u8 32 Try.underlying25 Try.underlying5 (by kernel_rfl) a a ha ha]
  simp
variable {w : World} {v u : Value} {l m : List (BitVec 8)}
theorem put32_v (h : Arg w v l) (x : BitVec 32) (hlen : l.length + 4 ≤ 140737488355328) : Calls Try.prog 25 #[v, .int .u32 (wb x)] w (RetOwn w 5 .u8 (l ++ low (x.setWidth 64) 4)) := by
  obtain ⟨A, cap, rfl, hc, hr⟩ := h
  exact put32_any l A cap x w hr hlen
theorem equal_v (h : Arg w v l) (h' : Arg w u m) (hlen : l.length ≤ 140737488355328) : Calls Try.prog 19 #[v, u] w fun e w' => e = .returned (.bool (l == m)) ∧ Below w.heap.size w w' := by
  obtain ⟨A, cap, rfl, hc, hr⟩ := h
  obtain ⟨A', cap', rfl, hc', hr'⟩ := h'
  refine (equal_any l m A A' cap cap' w hr hr' hlen).mono ?_
  rintro e _ ⟨rfl, n, rfl⟩
  exact ⟨rfl, below_drewN (Below.refl _ _) n⟩
theorem same_v (h : Arg w v l) (h' : Arg w u m) (hlen : l.length ≤ 140737488355328) : Calls Try.prog 17 #[v, u] w fun e w' => e = .returned (.bool (l == m)) ∧ Below w.heap.size w w' := by
  obtain ⟨A, cap, rfl, hc, hr⟩ := h
  obtain ⟨A', cap', rfl, hc', hr'⟩ := h'
  refine (same_any l m A A' cap cap' w hr hr' hlen).mono ?_
  rintro e _ ⟨rfl, n, rfl⟩
  exact ⟨rfl, below_drewN (Below.refl _ _) n⟩
theorem both_v (h : Arg w v l) (h' : Arg w u m) (hlen : l.length + m.length ≤ 140737488355328) : Calls Try.prog 32 #[v, u] w (RetOwn w 5 .u8 (l ++ m)) := by
  obtain ⟨A, cap, rfl, hc, hr⟩ := h
  obtain ⟨A', cap', rfl, hc', hr'⟩ := h'
  exact both_any l m A A' cap cap' w hr hr' hlen
end Go.Proofs.Ytgcdjickkbiglaa
