/- Arguments opened with their bulk: how many places a slice that came in reads. -/
import Derived.Test.YtpledkahbifnfaaOpenS
import Derived.Test.YtpledkahbifnfaaRows
namespace Go.Proofs.Ytpledkahbifnfaa
open Go.RowKit Go.ChangeShapes Go.WideShapes
theorem bulk_one {H : Type} (d : DataW H) : 1 ≤ Rows.uptoBulk d := by
  cases d with
  | lit l => cases l <;> simp [Rows.uptoBulk]
  | nil => simp [Rows.uptoBulk]
  | ptr d => simp [Rows.uptoBulk]
  | slice elems spare => simp [Rows.uptoBulk]
  | agg parts => simp [Rows.uptoBulk]
  | iface t d => simp [Rows.uptoBulk]
  | map entries => simp [Rows.uptoBulk]
  | held h => simp [Rows.uptoBulk]
theorem bulk_length {H : Type} (l : List (DataW H)) : l.length ≤ Rows.uptoBulkAll l := by
  induction l with
  | nil => simp [Rows.uptoBulkAll]
  | cons x r ih =>
    have := bulk_one x
    simp only [Rows.uptoBulkAll, List.length_cons]
    omega
theorem bulk_part {H : Type} {d : DataW H} {l : List (DataW H)} (h : d ∈ l) : Rows.uptoBulk d ≤ Rows.uptoBulkAll l := by
  induction l with
  | nil => cases h
  | cons x r ih =>
    simp only [Rows.uptoBulkAll]
    cases List.mem_cons.1 h with
    | inl e => subst e; omega
    | inr e => have := ih e; omega
/-- A slice of words that came in: it reads as a list of words, no longer than its bulk. -/
theorem open_row_bulk {P : Program} {W : World} {r : Reach} {b0 : Nat} {H : Type} {enc : TypeId × Value → H} {t e : TypeId} {k : IntKind} {n : Nat} (ht : P.underlying t = some (.slice e)) (he : P.underlying e = some (.int k)) (hU : IsU k n) (hs : P.cellsOf e = 1)
    {v : Value} {d : DataW H} {ps : List MemPlace} (hval : Value.okWide P W r b0 t v) (hd : DataW.Trod enc P W 0 (fun _ => true) true t v d ps) :
    ∃ (A : Option Addr) (cap : Nat) (l : List (BitVec n)), v = .slice A l.length cap ∧ l.length ≤ cap ∧ cap ≤ Rows.uptoBulk d ∧ Rd W k A l := by
  obtain ⟨A, cap, l, hv, h1, h2, h3⟩ := open_row ht he hU hs hval hd
  refine ⟨A, cap, l, hv, h1, ?_, h3⟩
  subst hv
  obtain ⟨fuel, hf⟩ := hd
  rcases open_ints ht he hs hf with ⟨hcs, _⟩ | ⟨x, ln, c, zs, hcs, _, hl, hm, hz, hx, hcell, hwz⟩
  · simp [Value.cells] at hcs
    obtain ⟨-, -, rfl⟩ := hcs
    omega
  · simp [Value.cells] at hcs
    obtain ⟨rfl, rfl, rfl⟩ := hcs
    simp only [Prod.mk.injEq] at hx
    obtain ⟨rfl, rfl⟩ := hx
    have e1 := bulk_length (H := H) (lits k (zs.take l.length))
    have e2 := bulk_length (H := H) (lits k (zs.drop l.length))
    simp only [Rows.uptoBulk]
    have hz' : zs.length = cap := by simpa using hz
    simp only [lits, List.length_map, List.length_take, List.length_drop] at e1 e2 ⊢
    rw [hz'] at e1 e2
    have e3 : min l.length cap = l.length := Nat.min_eq_left h1
    rw [e3] at e1
    omega
end Go.Proofs.Ytpledkahbifnfaa
