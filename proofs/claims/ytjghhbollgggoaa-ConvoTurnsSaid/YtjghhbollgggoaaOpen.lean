/- Arguments opened: arrays and structs by value as lists of words, slices of bytes as lists of bytes. -/
import Derived.Test.YtjghhbollgggoaaMem
import Derived.ProofKit
namespace Go.Proofs.Ytjghhbollgggoaa
open Go.RowKit Go.ChangeShapes Go.WideShapes

theorem has_words {k : IntKind} {n : Nat} (hU : IsU k n) {i : Int} (h : k.has i) : ∃ x : BitVec n, i = wb x := by
  obtain ⟨h1, h2⟩ := hU
  unfold IntKind.has IntKind.min IntKind.max at h
  rw [h1, h2] at h
  simp only [Bool.false_eq_true, if_false] at h
  exact ⟨BitVec.ofInt n i, (wb_of_int h.1 (by omega)).symm⟩

theorem cell_word {P : Program} {W : World} {r : Reach} {base : Nat} {e : TypeId} {k : IntKind} {n : Nat} (he : P.underlying e = some (.int k)) (hU : IsU k n) {v : Value} (h : Cell.okWide P W r base e v) : ∃ x : BitVec n, v = .int k (wb x) := by
  unfold Cell.okWide at h
  rw [he] at h
  unfold Cell.ok at h
  rw [he] at h
  cases v <;> simp only at h <;> try exact h.elim
  obtain ⟨rfl, h⟩ := h
  obtain ⟨x, rfl⟩ := has_words hU h
  exact ⟨x, rfl⟩

theorem cells_words {P : Program} {W : World} {r : Reach} {base : Nat} {e : TypeId} {k : IntKind} {n : Nat} (he : P.underlying e = some (.int k)) (hU : IsU k n) :
    ∀ cs : List Value, (∀ x ∈ cs, Cell.okWide P W r base e x) → ∃ l : List (BitVec n), l.length = cs.length ∧ cs = l.map fun x => Value.int k (wb x)
  | [], _ => ⟨[], rfl, rfl⟩
  | v :: cs, h => by
    obtain ⟨x, rfl⟩ := cell_word he hU (h v (by simp))
    obtain ⟨l, h1, h2⟩ := cells_words he hU cs (fun y hy => h y (by simp [hy]))
    exact ⟨x :: l, by simp [h1], by simp [h2]⟩

/-- An array or a struct by value: its cells, each of its cell's type. -/
theorem okWide_cells {P : Program} {W : World} {r : Reach} {base : Nat} {t : TypeId} {v : Value} {d : TypeDesc} (ht : P.underlying t = some d) (hd : (match d with | .struct _ | .array _ _ => true | _ => false) = true)
    (ts : List TypeId) (hts : P.cellTypes P.depth t = some ts) (hn : P.cellsOf t = ts.length) (h : Value.okWide P W r base t v) :
    ∃ cs : List Value, v = .agg cs.toArray ∧ cs.length = ts.length ∧ ∀ (i : Nat) x u, cs[i]? = some x → ts[i]? = some u → Cell.okWide P W r base u x := by
  unfold Value.okWide at h
  rw [ht] at h
  have h' : ∃ cs, v = .agg cs ∧ cs.size = P.cellsOf t ∧ Row.okWide P W r base t cs := by
    cases d <;> simp only [Bool.false_eq_true] at hd <;> exact h
  obtain ⟨cs, rfl, hs, ts', hts', _, hc⟩ := h'
  rw [hts] at hts'
  cases hts'
  refine ⟨cs.toList, by simp, by simp [hs, hn], fun i x u hx hu => ?_⟩
  obtain ⟨u', hu', hok⟩ := hc i x (by simpa using hx)
  have hlt : i < ts.length := (List.getElem?_eq_some_iff.1 hu).1
  rw [Nat.mod_eq_of_lt hlt, hu] at hu'
  cases hu'
  exact hok

/-- An array of words by value. -/
theorem open_words {P : Program} {W : World} {r : Reach} {base : Nat} {t e : TypeId} {v : Value} {m : Nat} {k : IntKind} {n : Nat} (ht : P.underlying t = some (.array m e)) (he : P.underlying e = some (.int k)) (hU : IsU k n)
    (hts : P.cellTypes P.depth t = some (List.replicate m e)) (hn : P.cellsOf t = m) (h : Value.okWide P W r base t v) : ∃ l : List (BitVec n), l.length = m ∧ v = .agg (encs k l) := by
  obtain ⟨cs, rfl, hl, hc⟩ := okWide_cells ht rfl _ hts (by simpa using hn) h
  obtain ⟨l, h1, rfl⟩ := cells_words (W := W) (r := r) (base := base) he hU cs (fun x hx => by
    obtain ⟨i, hi, rfl⟩ := List.mem_iff_getElem.1 hx
    exact hc i _ e (List.getElem?_eq_getElem hi) (by rw [List.getElem?_replicate, if_pos (by simpa [hl] using hi)]))
  exact ⟨l, by simpa using hl, rfl⟩

/-- A segment of cells of one kind of words. -/
theorem seg_words {P : Program} {W : World} {r : Reach} {base : Nat} {e : TypeId} {k : IntKind} {n : Nat} (he : P.underlying e = some (.int k)) (hU : IsU k n) (cs : List Value) (ts : List TypeId) (a m : Nat) (hts : (ts.drop a).take m = List.replicate m e) (hl : cs.length = ts.length)
    (hc : ∀ (i : Nat) x u, cs[i]? = some x → ts[i]? = some u → Cell.okWide P W r base u x) : ∃ l : List (BitVec n), l.length = m ∧ (cs.drop a).take m = l.map fun x => Value.int k (wb x) := by
  have hm : m ≤ ts.length - a := by
    have := congrArg List.length hts
    simp at this
    omega
  obtain ⟨l, h1, h2⟩ := cells_words (W := W) (r := r) (base := base) he hU ((cs.drop a).take m) (fun x hx => by
    obtain ⟨i, hi, rfl⟩ := List.mem_iff_getElem.1 hx
    have hi' : i < m := by simp at hi; omega
    refine hc (a + i) _ e ?_ ?_
    · rw [List.getElem_take, List.getElem_drop, List.getElem?_eq_getElem]
    · have : ((ts.drop a).take m)[i]? = some e := by rw [hts, List.getElem?_replicate, if_pos hi']
      rw [List.getElem?_take, if_pos hi', List.getElem?_drop] at this
      exact this)
  refine ⟨l, ?_, h2⟩
  rw [h1]
  simp
  omega

theorem min_unsigned {k : IntKind} {n : Nat} (hU : IsU k n) {i : Int} (h : (Lit.int k i).wf = true) : ∃ x : BitVec n, i = wb x := by
  apply has_words hU
  simpa [Lit.wf, IntKind.has] using h

/-- A slice of words that came in: it reads as a list of words (its elements alone). -/
theorem open_row {P : Program} {W : World} {r : Reach} {b0 : Nat} {H : Type} {enc : TypeId × Value → H} {t e : TypeId} {k : IntKind} {n : Nat} (ht : P.underlying t = some (.slice e)) (he : P.underlying e = some (.int k)) (hU : IsU k n) (hs : P.cellsOf e = 1)
    {v : Value} {d : DataW H} {ps : List MemPlace} (hval : Value.okWide P W r b0 t v) (hd : DataW.Trod enc P W 0 (fun _ => true) true t v d ps) :
    ∃ (A : Option Addr) (cap : Nat) (l : List (BitVec n)), v = .slice A l.length cap ∧ l.length ≤ cap ∧ cap ≤ 9223372036854775807 ∧ Rd W k A l := by
  obtain ⟨a0, len, cap, rfl⟩ := okWide_slice ht hval
  obtain ⟨fuel, hf⟩ := hd
  rcases open_ints ht he hs hf with ⟨hcs, _⟩ | ⟨x, ln, c, zs, hcs, _, hl, hm, hz, _, hcell, hwz⟩
  · simp [Value.cells] at hcs
    obtain ⟨rfl, rfl, rfl⟩ := hcs
    exact ⟨none, 0, [], rfl, by simp, by omega, Rd.nil⟩
  · simp [Value.cells] at hcs
    obtain ⟨rfl, rfl, rfl⟩ := hcs
    have hz' : zs.length = cap := by simpa using hz
    have hw : ∀ zs : List Int, (∀ z ∈ zs, (Lit.int k z).wf = true) → ∃ l : List (BitVec n), zs = l.map wb := by
      intro zs
      induction zs with
      | nil => exact fun _ => ⟨[], rfl⟩
      | cons z zs ih =>
        intro h
        obtain ⟨x, rfl⟩ := min_unsigned hU (h z (by simp))
        obtain ⟨l, rfl⟩ := ih (fun y hy => h y (by simp [hy]))
        exact ⟨x :: l, rfl⟩
    obtain ⟨l, rfl⟩ := hw zs hwz
    have hlc : l.length = cap := by simpa using hz'
    refine ⟨some x, cap, l.take len, ?_, ?_, by simpa [maxLen] using hm, ?_⟩
    · rw [List.length_take, Nat.min_eq_left (by omega)]
    · rw [List.length_take]
      omega
    · intro i hi
      rw [List.length_take] at hi
      have hc := hcell i (by simp; omega)
      obtain ⟨bb, off, spot⟩ := x
      have hspot : (⟨bb, off, spot⟩ : Addr).add i = ⟨bb, off + i, none⟩ := by
        have h1 := World.cell?_spot hc
        unfold Addr.add at h1 ⊢
        split at h1
        · rename_i hi0
          subst hi0
          simp only at h1
          subst h1
          rfl
        · rename_i hi0
          rw [if_neg hi0]
      have hspot0 : spot = none := by
        have hc0 := hcell 0 (by simp; omega)
        simpa [Addr.add] using World.cell?_spot hc0
      subst hspot0
      refine ⟨bb, off, rfl, ?_⟩
      rw [← hspot, hc]
      have hil : i < l.length := by omega
      simp [List.getD, show i < len by omega, hil]

theorem list4 {α : Type} (l : List α) (h : l.length = 4) : ∃ a b c d, l = [a, b, c, d] := by
  match l, h with
  | [a, b, c, d], _ => exact ⟨a, b, c, d, rfl⟩
end Go.Proofs.Ytjghhbollgggoaa
