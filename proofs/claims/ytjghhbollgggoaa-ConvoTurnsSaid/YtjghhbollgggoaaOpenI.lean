/- Whole numbers that came in, with their bounds. -/
import Derived.Test.YtjghhbollgggoaaOpenS
namespace Go.Proofs.Ytjghhbollgggoaa
open Go.RowKit Go.ChangeShapes Go.WideShapes
theorem open_i64 {P : Program} {W : World} {r : Reach} {base : Nat} {t : TypeId} (ht : P.underlying t = some (.int .i64)) {v : Value} (h : Value.okWide P W r base t v) : ∃ n : Int, v = .int .i64 n ∧ -9223372036854775808 ≤ n ∧ n ≤ 9223372036854775807 := by
  unfold Value.okWide at h
  rw [ht] at h
  unfold Cell.okWide at h
  rw [ht] at h
  unfold Cell.ok at h
  rw [ht] at h
  cases v <;> simp only at h <;> try exact h.elim
  obtain ⟨rfl, h⟩ := h
  unfold IntKind.has at h
  exact ⟨_, rfl, h.1, h.2⟩
end Go.Proofs.Ytjghhbollgggoaa
