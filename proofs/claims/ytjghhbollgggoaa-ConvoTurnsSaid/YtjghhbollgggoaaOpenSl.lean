/- A slice that came in whose elements are of several cells: it reads as a list of elements. -/
import Derived.Test.YtjghhbollgggoaaOpenS
import Derived.Test.YtjghhbollgggoaaRow
import Derived.Deep.Slices
import Derived.OpenShut
namespace Go.Proofs.Ytjghhbollgggoaa
open Go.RowKit Go.ChangeShapes Go.WideShapes Go.Deep
set_option linter.unusedVariables false
theorem trod_arr_words {P : Program} {W : World} {base : Nat} {sp : Nat → Bool} {held : Bool} {H : Type} {enc : TypeId × Value → H} {t e : TypeId} {k : IntKind} {n m : Nat} (ht : P.underlying t = some (.array m e)) (he : P.underlying e = some (.int k)) (hU : IsU k n) (hc : P.cellsOf e = 1) (hct : P.cellsOf t = m)
    {fuel : Nat} {cs : List Value} {x : DataW H × List MemPlace} (h : DataW.trod enc P W base sp held fuel t cs = some x) : ∃ l : List (BitVec n), l.length = m ∧ cs = encL k l := by
  obtain ⟨xs, f, -, -, hl, hxl, hx⟩ := DataW.trod_array ht h
  rw [hct] at hl
  have each : ∀ i, (hi : i < cs.length) → ∃ b : BitVec n, cs[i] = .int k (wb b) := fun i hi => by
    have h1 := hx i (by omega)
    rw [hc, Nat.mul_one, List.getElem?_eq_getElem (show i < xs.length by omega)] at h1
    have h2 : (cs.drop i).take 1 = [cs[i]] := by
      rw [List.drop_eq_getElem_cons hi]
      rfl
    rw [h2] at h1
    obtain ⟨z, hz, -, hw⟩ := DataW.trod_int he h1
    obtain ⟨b, rfl⟩ := min_unsigned hU hw
    exact ⟨b, by simpa using hz⟩
  have all : ∀ cs : List Value, (∀ i, (hi : i < cs.length) → ∃ b : BitVec n, cs[i] = .int k (wb b)) → ∃ l : List (BitVec n), l.length = cs.length ∧ cs = encL k l := by
    intro cs
    induction cs with
    | nil => exact fun _ => ⟨[], rfl, rfl⟩
    | cons v cs ih =>
      intro hh
      obtain ⟨b, hb⟩ := hh 0 (by simp)
      obtain ⟨l, h1, h2⟩ := ih (fun i hi => by
        obtain ⟨b, hb⟩ := hh (i + 1) (by simp; omega)
        exact ⟨b, by simpa using hb⟩)
      exact ⟨b :: l, by simp [h1], by rw [h2]; simp only [List.getElem_cons_zero] at hb; rw [hb]; rfl⟩
  obtain ⟨l, h1, h2⟩ := all cs each
  exact ⟨l, by omega, h2⟩
theorem flatMap_get {E : Type} {f : E → List Value} {n : Nat} : ∀ {l : List E}, (∀ x ∈ l, (f x).length = n) → ∀ (j : Nat) (u : Value), (l.flatMap f)[j]? = some u → ∃ i x, l[i]? = some x ∧ i * n ≤ j ∧ (f x)[j - i * n]? = some u
  | [], _, j, u, h => by simp at h
  | x :: l, hl, j, u, h => by
    rw [List.flatMap_cons] at h
    have hx := hl x (by simp)
    by_cases hj : j < n
    · rw [List.getElem?_append_left (by omega)] at h
      exact ⟨0, x, rfl, by omega, by simpa using h⟩
    · rw [List.getElem?_append_right (by omega), hx] at h
      obtain ⟨i, y, h1, h2, h3⟩ := flatMap_get (fun y hy => hl y (by simp [hy])) _ _ h
      refine ⟨i + 1, y, by simpa using h1, by rw [Nat.add_mul]; omega, ?_⟩
      rw [← h3]
      congr 1
      rw [Nat.add_mul]
      omega
/-- A slice that came in, its elements read one by one. -/
theorem open_cells {P : Program} {W : World} {H : Type} {enc : TypeId × Value → H} {t e : TypeId} {E : Type} [Inhabited E] (ht : P.underlying t = some (.slice e)) (n : Nat) (hn : P.cellsOf e = n) (f : E → List Value) (ok : E → Prop) (hf : ∀ y, ok y → (f y).length = n)
    (hel : ∀ (fuel : Nat) (cs : List Value) (x : DataW H × List MemPlace), DataW.trod enc P W 0 (fun _ => true) true fuel e cs = some x → ∃ y, ok y ∧ cs = f y)
    {fuel : Nat} {v : Value} {x : DataW H × List MemPlace} (h : DataW.trod enc P W 0 (fun _ => true) true fuel t [v] = some x) :
    ∃ (A : Option Addr) (cap : Nat) (l : List E), v = .slice A l.length cap ∧ l.length ≤ cap ∧ cap ≤ maxLen ∧ (cap = 0 ∨ cap * P.bytesOf e ∈ x.1.weights P t) ∧ (∀ y ∈ l, ok y) ∧ Cells W A (l.flatMap f) := by
  rcases open_slice ht h with ⟨h1, rfl⟩ | ⟨a, len, cap, m, q, D, Pl, h1, hb, hl, hm, hmm, rfl, hx⟩
  · simp only [List.cons.injEq, and_true] at h1
    subst h1
    exact ⟨none, 0, [], rfl, Nat.le_refl _, Nat.zero_le _, .inl rfl, fun y hy => by simp at hy, fun j u hu => by simp at hu⟩
  · simp only [List.cons.injEq, and_true] at h1
    subst h1
    simp only [if_true] at hmm
    subst hmm
    have each : ∀ i, i < len → ∃ y : E, ok y ∧ W.cells? 0 (a.add (i * n)) n = some (f y) := fun i hi => by
      obtain ⟨cs', h1, h2⟩ := hx i (by omega)
      obtain ⟨y, hy, rfl⟩ := hel _ _ _ h2
      exact ⟨y, hy, by rw [hn] at h1; exact h1⟩
    obtain ⟨F, hF⟩ := choose_lt each
    refine ⟨some a, m, (List.range len).map F, by simp, by simpa using hl, hm, .inr ?_, ?_, ?_⟩
    · unfold DataW.weights
      rw [ht]
      simp only [List.length_map, List.length_range, List.mem_cons]
      exact .inl (by rw [show len + (m - len) = m by omega])
    · intro y hy
      obtain ⟨i, hi, rfl⟩ := List.mem_map.1 hy
      exact (hF i (List.mem_range.1 hi)).1
    · intro j u hu
      obtain ⟨i, y, h1, h2, h3⟩ := flatMap_get (n := n) (fun y hy => by
        obtain ⟨i, hi, rfl⟩ := List.mem_map.1 hy
        exact hf _ (hF i (List.mem_range.1 hi)).1) _ _ hu
      rw [List.getElem?_map] at h1
      cases hr : (List.range len)[i]? with
      | none => rw [hr] at h1; cases h1
      | some r =>
        rw [hr] at h1
        have hil := (List.getElem?_eq_some_iff.1 hr).1
        have hri : r = i := by have := (List.getElem?_eq_some_iff.1 hr).2; simpa using this.symm
        subst hri
        simp only [Option.map_some, Option.some.injEq] at h1
        subst h1
        have hlt : r < len := by simpa using hil
        obtain ⟨-, hlen, hc⟩ := World.cells?_some (hF r hlt).2
        have hk := (List.getElem?_eq_some_iff.1 h3).1
        refine ⟨a, rfl, ?_⟩
        have := hc (j - r * n) (by omega)
        rw [add_add, h3] at this
        rw [← this]
        congr 2
        omega
theorem cells_rd {W : World} {k : IntKind} {n : Nat} {A : Option Addr} {l : List (BitVec n)} (h : Cells W A (encL k l)) : Rd W k A l := fun i hi => by
  obtain ⟨x, rfl, hc⟩ := h i _ (List.getElem?_eq_getElem (show i < (encL k l).length by rw [encL_length]; exact hi))
  obtain ⟨y, hy, hc0⟩ := h 0 _ (List.getElem?_eq_getElem (show 0 < (encL k l).length by rw [encL_length]; omega))
  cases hy
  obtain ⟨bb, off, spot⟩ := x
  have hspot0 : spot = none := by simpa [Addr.add] using World.cell?_spot hc0
  subst hspot0
  refine ⟨bb, off, rfl, ?_⟩
  rw [← add_lit, hc]
  simp [encL, List.getD, hi]
theorem flatMap_encL {n : Nat} (k : IntKind) (ls : List (List (BitVec n))) : ls.flatMap (encL k) = encL k ls.flatten := by
  induction ls with
  | nil => rfl
  | cons l ls ih => rw [List.flatMap_cons, List.flatten_cons, encL_append, ih]
theorem flatten_len {α : Type} {m : Nat} : ∀ {ls : List (List α)}, (∀ y ∈ ls, y.length = m) → ls.flatten.length = m * ls.length
  | [], _ => rfl
  | a :: ls, h => by
    rw [List.flatten_cons, List.length_append, h a (by simp), flatten_len (fun y hy => h y (by simp [hy])), List.length_cons, Nat.mul_add]
    omega
end Go.Proofs.Ytjghhbollgggoaa
