/- Arguments opened with the reach: how many bytes a slice that came in takes. -/
import Derived.Test.YtjghhbollgggoaaOpen
import Derived.SizedLaws
namespace Go.Proofs.Ytjghhbollgggoaa
open Go.RowKit Go.ChangeShapes Go.WideShapes
/-- A whole number of a width. -/
theorem open_word {P : Program} {W : World} {r : Reach} {base : Nat} {t : TypeId} {k : IntKind} {n : Nat} (ht : P.underlying t = some (.int k)) (hU : IsU k n) {v : Value} (h : Value.okWide P W r base t v) : ∃ x : BitVec n, v = .int k (wb x) := by
  unfold Value.okWide at h
  rw [ht] at h
  exact cell_word ht hU h
/-- A slice of words that came in: it reads as a list of words, within the form's reach. -/
theorem open_row_sized {P : Program} {W : World} {r : Reach} {b0 : Nat} {H : Type} {enc : TypeId × Value → H} {t e : TypeId} {k : IntKind} {n : Nat} (ht : P.underlying t = some (.slice e)) (he : P.underlying e = some (.int k)) (hU : IsU k n) (hs : P.cellsOf e = 1)
    {v : Value} {d : DataW H} {ps : List MemPlace} (hval : Value.okWide P W r b0 t v) (hd : DataW.Trod enc P W 0 (fun _ => true) true t v d ps)
    {ts : List TypeId} {ds : List (DataW H)} (hsz : (DataW.weightsEach P ts ds).all (· ≤ reachBytes) = true) {j : Nat} (hj : ts[j]? = some t) (hdj : ds[j]? = some d) (bb : Nat) (hbb : P.bytesOf e = bb) :
    ∃ (A : Option Addr) (cap : Nat) (l : List (BitVec n)), v = .slice A l.length cap ∧ l.length ≤ cap ∧ cap * bb ≤ 140737488351232 ∧ Rd W k A l := by
  obtain ⟨A, cap, l, hv, h1, h2, h3⟩ := open_row ht he hU hs hval hd
  refine ⟨A, cap, l, hv, h1, ?_, h3⟩
  subst hv
  obtain ⟨fuel, hf⟩ := hd
  rcases open_ints ht he hs hf with ⟨hcs, _⟩ | ⟨x, ln, c, zs, hcs, _, hl, hm, hz, hx, hcell, hwz⟩
  · simp [Value.cells] at hcs
    obtain ⟨-, -, rfl⟩ := hcs
    omega
  · simp [Value.cells] at hcs
    obtain ⟨rfl, rfl, rfl⟩ := hcs
    simp only [Prod.mk.injEq] at hx
    obtain ⟨rfl, rfl⟩ := hx
    have := sized_slice hsz hj hdj ht
    rw [hbb] at this
    simp only [lits, List.length_map, List.length_take, List.length_drop, reachBytes] at this
    have hz' : zs.length = cap := by simpa using hz
    rw [hz'] at this
    have e1 : min l.length cap + (cap - l.length) = cap := by omega
    rw [e1] at this
    exact this
end Go.Proofs.Ytjghhbollgggoaa
