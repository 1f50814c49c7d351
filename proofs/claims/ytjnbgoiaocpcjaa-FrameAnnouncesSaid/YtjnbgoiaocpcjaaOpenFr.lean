/- frame's records that come in by value, opened. -/
import Derived.Test.YtjnbgoiaocpcjaaFrGet
import Derived.Test.YtjnbgoiaocpcjaaOpen
namespace Go.Proofs.Ytjnbgoiaocpcjaa
open Go.RowKit Go.ChangeShapes Go.WideShapes
theorem typesMsg : Try.prog.cellTypes Try.prog.depth 32 = some (List.replicate 32 5 ++ [27, 27] ++ List.replicate 65 5) := by kernel_rfl
theorem typesExc : Try.prog.cellTypes Try.prog.depth 37 = some (List.replicate 16 5 ++ List.replicate 130 5) := by kernel_rfl
theorem split3 {α : Type} (l : List α) (a b : Nat) : l = l.take a ++ ((l.drop a).take b ++ (l.drop a).drop b) := by rw [List.take_append_drop, List.take_append_drop]
set_option maxRecDepth 100000 in
theorem open_msg {W : World} {r : Reach} {base : Nat} {v : Value} (h : Value.okWide Try.prog W r base 32 v) : ∃ (k : List (BitVec 8)) (p n : BitVec 32) (body : List (BitVec 8)), k.length = 32 ∧ body.length = 65 ∧ v = .agg (msgL k p n body).toArray := by
  obtain ⟨cs, rfl, hl, hc⟩ := okWide_cells Try.underlying32 rfl _ typesMsg (by kernel_rfl) h
  obtain ⟨k, hk, e1⟩ := seg_words (n := 8) Try.underlying5 isU8 cs _ 0 32 (by kernel_rfl) hl hc
  obtain ⟨ps, hp, e2⟩ := seg_words (n := 32) Try.underlying27 isU32 cs _ 32 2 (by kernel_rfl) hl hc
  obtain ⟨body, hb, e3⟩ := seg_words (n := 8) Try.underlying5 isU8 cs _ 34 65 (by kernel_rfl) hl hc
  obtain ⟨p, n, rfl⟩ : ∃ p n, ps = [p, n] := by
    match ps, hp with
    | [p, n], _ => exact ⟨p, n, rfl⟩
  have hl' : cs.length = 99 := by rw [hl]; simp
  refine ⟨k, p, n, body, hk, hb, ?_⟩
  congr 2
  rw [List.drop_zero] at e1
  rw [List.take_of_length_le (l := cs.drop 34) (by rw [List.length_drop]; omega)] at e3
  have : cs = cs.take 32 ++ ((cs.drop 32).take 2 ++ cs.drop 34) := by
    conv => lhs; rw [split3 cs 32 2, List.drop_drop]
  rw [this, e1, e2, e3]
  simp [msgL, hdrL, encL]
set_option maxRecDepth 100000 in
theorem open_exc {W : World} {r : Reach} {base : Nat} {v : Value} (h : Value.okWide Try.prog W r base 37 v) : ∃ drop body : List (BitVec 8), drop.length = 16 ∧ body.length = 130 ∧ v = .agg (excL drop body).toArray := by
  obtain ⟨cs, rfl, hl, hc⟩ := okWide_cells Try.underlying37 rfl _ typesExc (by kernel_rfl) h
  obtain ⟨k, hk, e1⟩ := seg_words (n := 8) Try.underlying5 isU8 cs _ 0 16 (by kernel_rfl) hl hc
  obtain ⟨body, hb, e3⟩ := seg_words (n := 8) Try.underlying5 isU8 cs _ 16 130 (by kernel_rfl) hl hc
  have hl' : cs.length = 146 := by rw [hl]; simp
  refine ⟨k, body, hk, hb, ?_⟩
  congr 2
  rw [List.drop_zero] at e1
  rw [List.take_of_length_le (l := cs.drop 16) (by rw [List.length_drop]; omega)] at e3
  have : cs = cs.take 16 ++ cs.drop 16 := (List.take_append_drop _ _).symm
  rw [this, e1, e3]
  simp [excL, encL]
end Go.Proofs.Ytjnbgoiaocpcjaa
