/- Two whole numbers that came in. -/
import Derived.Test.YtjghhbollgggoaaOpenI
namespace Go.Proofs.Ytjghhbollgggoaa
open Go.RowKit Go.ChangeShapes Go.WideShapes
theorem cell_i64 {P : Program} {W : World} {r : Reach} {base : Nat} {e : TypeId} (he : P.underlying e = some (.int .i64)) {v : Value} (h : Cell.okWide P W r base e v) : ∃ n : Int, v = .int .i64 n ∧ -9223372036854775808 ≤ n ∧ n ≤ 9223372036854775807 := by
  unfold Cell.okWide at h
  rw [he] at h
  unfold Cell.ok at h
  rw [he] at h
  cases v <;> simp only at h <;> try exact h.elim
  obtain ⟨rfl, h⟩ := h
  unfold IntKind.has at h
  exact ⟨_, rfl, h.1, h.2⟩
theorem open_two_i64 {P : Program} {W : World} {r : Reach} {base : Nat} {t e : TypeId} {v : Value} (ht : P.underlying t = some (.array 2 e)) (he : P.underlying e = some (.int .i64))
    (hts : P.cellTypes P.depth t = some [e, e]) (hn : P.cellsOf t = 2) (h : Value.okWide P W r base t v) : ∃ a b : Int, v = .agg #[.int .i64 a, .int .i64 b] ∧ (-9223372036854775808 ≤ a ∧ a ≤ 9223372036854775807) ∧ (-9223372036854775808 ≤ b ∧ b ≤ 9223372036854775807) := by
  obtain ⟨cs, rfl, hl, hc⟩ := okWide_cells ht rfl _ hts (by simpa using hn) h
  match cs, hl with
  | [x, y], _ =>
    obtain ⟨a, rfl, h1⟩ := cell_i64 he (hc 0 x e rfl rfl)
    obtain ⟨b, rfl, h2⟩ := cell_i64 he (hc 1 y e rfl rfl)
    exact ⟨a, b, rfl, h1, h2⟩
end Go.Proofs.Ytjghhbollgggoaa
