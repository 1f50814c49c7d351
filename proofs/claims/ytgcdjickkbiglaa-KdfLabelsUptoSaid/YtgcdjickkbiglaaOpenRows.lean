/- Rows of bytes that came in: a slice of slices. -/
import Derived.Test.YtgcdjickkbiglaaOpenS
import Derived.Deep.Matrix
import Derived.Test.YtgcdjickkbiglaaRow
namespace Go.Proofs.Ytgcdjickkbiglaa
open Go.RowKit Go.ChangeShapes Go.WideShapes Go.Deep
set_option linter.unusedVariables false
theorem rd_of_cells {W : World} {k : IntKind} {n : Nat} {x : Addr} {l : List (BitVec n)} (h : ∀ i, i < l.length → W.cell? (x.add i) = some (.int k (wb (l.getD i 0)))) : Rd W k (some x) l := fun i hi => by
  have hc := h i hi
  obtain ⟨bb, off, spot⟩ := x
  have hspot : (⟨bb, off, spot⟩ : Addr).add i = ⟨bb, off + i, none⟩ := by
    have h1 := World.cell?_spot hc
    unfold Addr.add at h1 ⊢
    split at h1
    · rename_i hi0
      subst hi0
      simp only at h1
      subst h1
      rfl
    · rename_i hi0
      rw [if_neg hi0]
  have hspot0 : spot = none := by
    have hc0 := h 0 (by omega)
    simpa [Addr.add] using World.cell?_spot hc0
  subst hspot0
  exact ⟨bb, off, rfl, by rw [← hspot]; exact hc⟩
theorem words_of {k : IntKind} {n : Nat} (hU : IsU k n) : ∀ zs : List Int, (∀ z ∈ zs, (Lit.int k z).wf = true) → ∃ l : List (BitVec n), zs = l.map wb
  | [], _ => ⟨[], rfl⟩
  | z :: zs, h => by
    obtain ⟨x, rfl⟩ := min_unsigned hU (h z (by simp))
    obtain ⟨l, rfl⟩ := words_of hU zs (fun y hy => h y (by simp [hy]))
    exact ⟨x :: l, rfl⟩
/-- A value that reads as bytes, within the form's reach. -/
def RowArg (W : World) (v : Value) (l : List (BitVec 8)) : Prop := ∃ A cap, v = .slice A l.length cap ∧ l.length ≤ cap ∧ l.length ≤ 140737488351232 ∧ Rd W .u8 A l
/-- A slice that reads as values (its address is asked for only where there is one). -/
def RdV (W : World) (A : Option Addr) (vs : List Value) : Prop := ∀ i, i < vs.length → ∃ g off, A = some ⟨g, off, none⟩ ∧ W.cell? ⟨g, off + i, none⟩ = some (vs.getD i undef)
theorem RdV.below {w w' : World} {A : Option Addr} {vs : List Value} (h : RdV w A vs) (hb : Below w.heap.size w w') : RdV w' A vs := fun i hi =>
  let ⟨g, off, hA, hc⟩ := h i hi
  ⟨g, off, hA, below_cell hb hc⟩
theorem cells_rdv {W : World} {A : Option Addr} {vs : List Value} (h : Cells W A vs) : RdV W A vs := fun i hi => by
  obtain ⟨x, rfl, hc⟩ := h i _ (List.getElem?_eq_getElem hi)
  obtain ⟨y, hy, hc0⟩ := h 0 _ (List.getElem?_eq_getElem (show 0 < vs.length by omega))
  cases hy
  obtain ⟨bb, off, spot⟩ := x
  have hspot0 : spot = none := by simpa [Addr.add] using World.cell?_spot hc0
  subst hspot0
  refine ⟨bb, off, rfl, ?_⟩
  rw [← add_lit, hc]
  simp [List.getD, List.getElem?_eq_getElem hi]
theorem weightsAll_mem {H : Type} {P : Program} {e : TypeId} : ∀ {l : List (DataW H)} {d : DataW H}, d ∈ l → ∀ n ∈ d.weights P e, n ∈ DataW.weightsAll P e l
  | x :: r, d, hd, n, hn => by
    unfold DataW.weightsAll
    rw [List.mem_append]
    rcases List.mem_cons.1 hd with rfl | h
    · exact .inl hn
    · exact .inr (weightsAll_mem h n hn)
theorem open_rows_sized {P : Program} {W : World} {r : Reach} {b0 : Nat} {H : Type} {enc : TypeId × Value → H} {t e q : TypeId} (ht : P.underlying t = some (.slice e)) (he : P.underlying e = some (.slice q)) (hq : P.underlying q = some (.int .u8))
    (ce : P.cellsOf e = 1) (cq : P.cellsOf q = 1) (bq : P.bytesOf q = 1) (be : P.bytesOf e = 24)
    {v : Value} {d : DataW H} {ps : List MemPlace} (hval : Value.okWide P W r b0 t v) (hd : DataW.Trod enc P W 0 (fun _ => true) true t v d ps)
    {ts : List TypeId} {ds : List (DataW H)} (hsz : (DataW.weightsEach P ts ds).all (· ≤ reachBytes) = true) {j : Nat} (hj : ts[j]? = some t) (hdj : ds[j]? = some d) :
    ∃ (A : Option Addr) (cap : Nat) (ls : List (List (BitVec 8))) (vs : List Value), v = .slice A ls.length cap ∧ ls.length ≤ cap ∧ cap * 24 ≤ 140737488351232 ∧ vs.length = ls.length ∧ RdV W A vs ∧ ∀ i, i < ls.length → RowArg W (vs.getD i undef) (ls.getD i []) := by
  obtain ⟨a0, len, cap, rfl⟩ := okWide_slice ht hval
  obtain ⟨fuel, hf⟩ := hd
  rcases open_int_rows ht he hq ce cq hf with ⟨hcs, _⟩ | ⟨x, ln, c, A, L, C, Z, hcs, _, hl, hm, hx, hrow⟩
  · simp [Value.cells] at hcs
    obtain ⟨rfl, rfl, rfl⟩ := hcs
    exact ⟨none, 0, [], [], rfl, by simp, by omega, rfl, cells_rdv (Cells.nil _ _), fun i hi => by simp at hi⟩
  · simp [Value.cells] at hcs
    obtain ⟨rfl, rfl, rfl⟩ := hcs
    simp only [Prod.mk.injEq] at hx
    obtain ⟨rfl, rfl⟩ := hx
    have hw : ∀ r, r < len → ∃ l : List (BitVec 8), RowArg W (.slice (A r) (L r) (C r)) l := fun r hr => by
      obtain ⟨h1, h2, h3, h4, h5, h6, h7⟩ := hrow r (by omega)
      obtain ⟨l, hl'⟩ := words_of isU8 (Z r) h5
      have hlc : l.length = C r := by rw [← h4, hl']; simp
      refine ⟨l.take (L r), A r, C r, by rw [List.length_take, Nat.min_eq_left (by omega)], by rw [List.length_take]; omega, Nat.le_trans (by rw [List.length_take]; omega) (?_ : C r ≤ 140737488351232), ?_⟩
      · cases hA : A r with
        | none => rw [h6 hA]; omega
        | some a' =>
          have hmem : intRow .u8 (A r) (L r) (Z r) ∈ (List.range len).map fun r => (intRow .u8 (A r) (L r) (Z r) : DataW H) := List.mem_map.2 ⟨r, List.mem_range.2 hr, rfl⟩
          have hwt : C r ∈ (intRow .u8 (A r) (L r) (Z r) : DataW H).weights P e := by
            unfold intRow
            rw [hA]
            unfold DataW.weights
            rw [he]
            simp only [lits, List.length_map, List.length_take, List.length_drop, bq, Nat.mul_one, List.mem_cons]
            exact .inl (by omega)
          have hin : C r ∈ (DataW.slice ((List.range len).map fun r => (intRow .u8 (A r) (L r) (Z r) : DataW H)) ((List.range (cap - len)).map fun j => intRow .u8 (A (len + j)) (L (len + j)) (Z (len + j)))).weights P t := by
            unfold DataW.weights
            rw [ht]
            simp only [List.mem_cons, List.mem_append]
            exact .inr (.inl (weightsAll_mem hmem _ hwt))
          have := DataW.weights_mem_each hj hdj _ hin
          rw [List.all_eq_true] at hsz
          exact of_decide_eq_true (hsz _ this)
      · cases hA : A r with
        | none =>
          have := h6 hA
          have hl0 : l.take (L r) = [] := List.eq_nil_of_length_eq_zero (by rw [List.length_take]; omega)
          rw [hl0]
          exact Rd.nil
        | some a' =>
          refine rd_of_cells fun i hi => ?_
          rw [List.length_take] at hi
          rw [(h7 a' hA).2 i (by omega), hl']
          congr 2
          simp [List.getD, show i < L r by omega, show i < l.length by omega]
    have hcapb : cap * 24 ≤ 140737488351232 := by
      have := sized_slice hsz hj hdj ht
      rw [be] at this
      simp only [List.length_map, List.length_range, reachBytes] at this
      rw [show len + (cap - len) = cap by omega] at this
      exact this
    obtain ⟨f, hfun⟩ : ∃ f : Nat → List (BitVec 8), ∀ r, r < len → RowArg W (.slice (A r) (L r) (C r)) (f r) := ⟨fun r => if h : r < len then Classical.choose (hw r h) else [], fun r hr => by have := Classical.choose_spec (hw r hr); simpa only [hr, dite_true] using this⟩
    refine ⟨some x, cap, (List.range len).map f, (List.range len).map fun r => .slice (A r) (L r) (C r), by simp, by simpa using hl, hcapb, by simp, cells_rdv ?_, ?_⟩
    · intro j u hu
      rw [List.getElem?_map] at hu
      cases hj' : (List.range len)[j]? with
      | none => rw [hj'] at hu; cases hu
      | some r =>
        rw [hj'] at hu
        have hjl := (List.getElem?_eq_some_iff.1 hj').1
        have hr : r = j := by have := (List.getElem?_eq_some_iff.1 hj').2; simpa using this.symm
        subst hr
        simp only [Option.map_some, Option.some.injEq] at hu
        subst hu
        have hjl' : r < len := by simpa using hjl
        exact ⟨x, rfl, (hrow r (by omega)).1⟩
    · intro i hi
      have hi' : i < len := by simpa using hi
      have e1 : ((List.range len).map f).getD i [] = f i := by simp [List.getD, hi']
      have e2 : ((List.range len).map fun r => Value.slice (A r) (L r) (C r)).getD i undef = .slice (A i) (L i) (C i) := by simp [List.getD, hi']
      rw [e1, e2]
      exact hfun i hi'
end Go.Proofs.Ytgcdjickkbiglaa
