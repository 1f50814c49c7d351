/- Structs and arrays built of all their parts, and parts of structs. -/
import Derived.Test.YtjghhbollgggoaaRow
import Derived.Test.YtjghhbollgggoaaArrEq
import Derived.Laws.StructEq
namespace Go.Proofs.Ytjghhbollgggoaa
open Go.RowKit
set_option linter.unusedSimpArgs false
theorem fold_put (off : Nat) : ∀ (l : List Value) (k : Nat) (A B C : List Value), A.length = off + k → B.length = l.length → (l.zipIdx k).foldl (fun (cs : Array Value) (p : Value × Nat) => cs.setIfInBounds (off + p.2) p.1) (A ++ B ++ C).toArray = (A ++ l ++ C).toArray
  | [], k, A, B, C, hA, hB => by
    have : B = [] := List.eq_nil_of_length_eq_zero (by simpa using hB)
    subst this
    rfl
  | v :: l, k, A, b :: B, C, hA, hB => by
    simp only [List.zipIdx_cons, List.foldl_cons]
    have e : (A ++ b :: B ++ C).toArray.setIfInBounds (off + k) v = ((A ++ [v]) ++ B ++ C).toArray := by
      rw [← hA]
      apply Array.ext'
      simp
    rw [e, fold_put off l (k + 1) (A ++ [v]) B C (by simp [hA]; omega) (by simpa using hB)]
    congr 1
    simp
  | v :: l, k, A, [], C, hA, hB => by simp at hB
def partsFrom : Nat → List Value → List (Nat × Value)
  | _, [] => []
  | i, v :: r => (i, v) :: partsFrom (i + 1) r
def tiles : Nat → List Nat → List (Nat × Nat)
  | _, [] => []
  | o, s :: r => (o, s) :: tiles (o + s) r
def catCells : List Value → List Value
  | [] => []
  | v :: r => v.cells.toList ++ catCells r
theorem fill_tiles (pl : Nat → Option (Nat × Nat)) : ∀ (vs : List Value) (i : Nat) (A Z : List Value), (∀ j p, (tiles A.length (vs.map (·.cells.size)))[j]? = some p → pl (i + j) = some p) → (catCells vs).length ≤ Z.length → Instr.fill pl (A ++ Z).toArray (partsFrom i vs) = some (A ++ catCells vs ++ Z.drop (catCells vs).length).toArray
  | [], i, A, Z, h, hz => by simp [partsFrom, Instr.fill, catCells]
  | v :: vs, i, A, Z, h, hz => by
    have h0 := h 0 (A.length, v.cells.size) (by simp [tiles])
    rw [Nat.add_zero] at h0
    have hz' : v.cells.size + (catCells vs).length ≤ Z.length := by simpa [catCells] using hz
    simp only [partsFrom, Instr.fill, h0]
    rw [if_neg (by simp; omega)]
    have e : v.cells.zipIdx.foldl (fun cs (x : Value × Nat) => match x with | (c, j) => cs.setIfInBounds (A.length + j) c) (A ++ Z).toArray = (A ++ v.cells.toList ++ Z.drop v.cells.size).toArray := by
      rw [← Array.foldl_toList, Array.toList_zipIdx]
      have hZ : Z = Z.take v.cells.size ++ Z.drop v.cells.size := (List.take_append_drop _ _).symm
      have := fold_put A.length v.cells.toList 0 A (Z.take v.cells.size) (Z.drop v.cells.size) rfl (by simp; omega)
      rw [List.append_assoc, ← hZ] at this
      exact this
    rw [e]
    have := fill_tiles pl vs (i + 1) (A ++ v.cells.toList) (Z.drop v.cells.size) (fun j p hp => by
      rw [List.length_append, Array.length_toList] at hp
      have := h (j + 1) p (by simpa [tiles] using hp)
      rw [← this]
      congr 1
      omega) (by rw [List.length_drop]; omega)
    rw [this]
    simp [catCells]
/-- A struct of its first fields, the others noughts. -/
theorem run_build_first {P : Program} (t : TypeId) (fs : Array Field) (z : Value) (pl : Array (Nat × Nat)) (hu : P.underlying t = some (.struct fs)) (hz : ∀ w, (zeroValue t).run P w = .ok z w) (hp : ∀ w, (fs.mapM fun f => do pure (f.offset, ← sizeOf f.type) : Sem (Array (Nat × Nat))).run P w = .ok pl w)
    (vs : List Value) (ht : tiles 0 (vs.map (·.cells.size)) <+: pl.toList) (hl : (catCells vs).length ≤ z.cells.size) (w : World) : (Instr.build t (partsFrom 0 vs).toArray).run P w = .ok (.agg (catCells vs ++ z.cells.toList.drop (catCells vs).length).toArray) w := by
  have hf := fill_tiles (pl[·]?) vs 0 [] z.cells.toList (fun j p h => by
    rw [List.length_nil] at h
    rw [Nat.zero_add]
    obtain ⟨r, hr⟩ := ht
    have : pl.toList[j]? = some p := by
      rw [← hr, List.getElem?_append_left (List.getElem?_eq_some_iff.1 h).1]
      exact h
    simpa using this) (by rw [Array.length_toList]; exact hl)
  simp only [List.nil_append, Array.toArray_toList] at hf
  unfold Instr.build
  simp only [Sem.run_bind, hz, Result.andThen_ok, run_underlying hu, hp, hf, Sem.run_pure]
/-- A struct of all its fields. -/
theorem run_build_all {P : Program} (t : TypeId) (fs : Array Field) (z : Value) (pl : Array (Nat × Nat)) (hu : P.underlying t = some (.struct fs)) (hz : ∀ w, (zeroValue t).run P w = .ok z w) (hp : ∀ w, (fs.mapM fun f => do pure (f.offset, ← sizeOf f.type) : Sem (Array (Nat × Nat))).run P w = .ok pl w)
    (vs : List Value) (ht : tiles 0 (vs.map (·.cells.size)) = pl.toList) (hl : z.cells.size = (catCells vs).length) (w : World) : (Instr.build t (partsFrom 0 vs).toArray).run P w = .ok (.agg (catCells vs).toArray) w := by
  rw [run_build_first t fs z pl hu hz hp vs (by rw [ht]; exact List.prefix_refl _) (by omega) w, List.drop_of_length_le (by rw [Array.length_toList]; omega), List.append_nil]
/-- A field of a struct that goes by value. -/
theorem run_part_agg {P : Program} (t : TypeId) (d : TypeDesc) (hu : P.underlying t = some d) (hd : (match d with | .struct _ | .array _ _ => true | _ => false) = true) (n : Nat) (hs : (P.info? t).map (·.size) = some n) (A B C : List Value) (hn : B.length = n) (w : World) :
    (part t (A ++ B ++ C).toArray A.length).run P w = .ok (.agg B.toArray) w := by
  cases hq : P.info? t with
  | none => simp [hq] at hs
  | some i =>
    have hsz : i.size = n := by simpa [hq] using hs
    have hagg : (isAgg t).run P w = .ok true w := by
      unfold isAgg
      rw [Sem.run_bind, run_underlying hu w]
      cases d <;> simp_all
    have e : (A ++ B ++ C).toArray.extract A.length (A.length + n) = B.toArray := by
      apply Array.ext'
      simp [List.drop_append, List.take_append, hn]
    simp [part, Sem.run_bind, hagg, sizeOf, typeInfo, hq, hsz]
    simpa using e
theorem run_part_cell {P : Program} (t : TypeId) (k : IntKind) (hu : P.underlying t = some (.int k)) (A C : List Value) (v : Value) (w : World) :
    (part t (A ++ [v] ++ C).toArray A.length).run P w = .ok v w := by
  have hagg : (isAgg t).run P w = .ok false w := by
    unfold isAgg
    rw [Sem.run_bind, run_underlying hu w]
    rfl
  simp [part, Sem.run_bind, hagg]
/-- A part of a block that reads as words. -/
theorem Blk.rdSeg {w : World} {g off : Nat} {cs : Array Value} {ty : TypeId} {k : IntKind} {n : Nat} {l : List (BitVec n)} (h : Blk w g cs ty) (A C : List Value) (e : cs.toList = A ++ encL k l ++ C) (ho : A.length = off) : Rd w k (some ⟨g, off, none⟩) l := fun i hi => by
  refine ⟨g, off, rfl, ?_⟩
  rw [h.cell, ← Array.getElem?_toList, e, ← ho, List.append_assoc, List.getElem?_append_right (by omega), Nat.add_sub_cancel_left, List.getElem?_append_left (by rw [encL_length]; exact hi), encL_get k l i hi]
theorem Blk.cellSeg {w : World} {g off : Nat} {cs : Array Value} {ty : TypeId} {v : Value} (h : Blk w g cs ty) (A C : List Value) (e : cs.toList = A ++ v :: C) (ho : A.length = off) : w.cell? ⟨g, off, none⟩ = some v := by
  rw [h.cell, ← Array.getElem?_toList, e, ← ho, List.getElem?_append_right (by omega), Nat.sub_self]
  rfl
/-- An array loaded from where a slice reads. -/
theorem run_loadVar_rd {P : Program} (w : World) (g off : Nat) (ty : TypeId) (k : IntKind) {n : Nat} (l : List (BitVec n)) (hR : Rd w k (some ⟨g, off, none⟩) l) (d : TypeDesc) (hu : P.underlying ty = some d) (hd : (match d with | .struct _ | .array _ _ => true | _ => false) = true) (hi : (P.info? ty).map (·.size) = some l.length) :
    (loadVar ty ⟨g, off, none⟩).run P w = .ok (.agg (encs k l)) w := by
  have hl : (loadCells ⟨g, off, none⟩ l.length).run P w = .ok (encL k l).toArray w := by
    have := run_loadCells_list (P := P) w ⟨g, off, none⟩ (encL k l) (fun j v hv => by
      obtain ⟨a, ha, hc⟩ := hR.cells j v hv
      cases ha
      exact hc)
    rwa [encL_length] at this
  cases hq : P.info? ty with
  | none => simp [hq] at hi
  | some i =>
    have hs : i.size = l.length := by simpa [hq] using hi
    have hagg : (isAgg ty).run P w = .ok true w := by
      unfold isAgg
      rw [Sem.run_bind, run_underlying hu w]
      cases d <;> simp_all
    simp [loadVar, Sem.run_bind, hagg, sizeOf, typeInfo, hq, hs, hl, encL_toArray]
/-- Results of which the first, or the first two, are structs or arrays. -/
theorem results_cell_tmp {P : Program} {fn : Func} {p q : Tmp} {ty : TypeId} (h : fn.results = #[.cell p ty, .tmp q]) (tmps : Array Value) (w : World) (g : Nat) (t : TypeId) (cs : Array Value) (fr : Nat × Nat) (d : TypeDesc) (v : Value)
    (hp : tmps.getD p undef = .pointer (some ⟨g, 0, none⟩)) (hq : tmps.getD q undef = v) (hg : w.heap[g]? = some (.cells cs t fr))
    (hu : P.underlying ty = some d) (hd : (match d with | .struct _ | .array _ _ => true | _ => false) = true) (hi : (P.info? ty).map (·.size) = some cs.size) :
    (results fn tmps).run P w = .ok (.tuple #[.agg cs, v]) w := by
  have hp' : tmps[p]?.getD undef = .pointer (some ⟨g, 0, none⟩) := by simpa using hp
  have hq' : tmps[q]?.getD undef = v := by simpa using hq
  simp [results, h, hp', hq', asAddr, run_loadVar_row w g t ty cs fr d hg hu hd hi]
theorem results_cell_tmp2 {P : Program} {fn : Func} {p q r : Tmp} {ty : TypeId} (h : fn.results = #[.cell p ty, .tmp q, .tmp r]) (tmps : Array Value) (w : World) (g : Nat) (t : TypeId) (cs : Array Value) (fr : Nat × Nat) (d : TypeDesc) (v u : Value)
    (hp : tmps.getD p undef = .pointer (some ⟨g, 0, none⟩)) (hq : tmps.getD q undef = v) (hr : tmps.getD r undef = u) (hg : w.heap[g]? = some (.cells cs t fr))
    (hu : P.underlying ty = some d) (hd : (match d with | .struct _ | .array _ _ => true | _ => false) = true) (hi : (P.info? ty).map (·.size) = some cs.size) :
    (results fn tmps).run P w = .ok (.tuple #[.agg cs, v, u]) w := by
  have hp' : tmps[p]?.getD undef = .pointer (some ⟨g, 0, none⟩) := by simpa using hp
  have hq' : tmps[q]?.getD undef = v := by simpa using hq
  have hr' : tmps[r]?.getD undef = u := by simpa using hr
  simp [results, h, hp', hq', hr', asAddr, run_loadVar_row w g t ty cs fr d hg hu hd hi]
theorem results_cell_cell {P : Program} {fn : Func} {p q : Tmp} {ty ty' : TypeId} (h : fn.results = #[.cell p ty, .cell q ty']) (tmps : Array Value) (w : World) (g g' : Nat) (t t' : TypeId) (cs cs' : Array Value) (fr fr' : Nat × Nat) (d d' : TypeDesc)
    (hp : tmps.getD p undef = .pointer (some ⟨g, 0, none⟩)) (hq : tmps.getD q undef = .pointer (some ⟨g', 0, none⟩)) (hg : w.heap[g]? = some (.cells cs t fr)) (hg' : w.heap[g']? = some (.cells cs' t' fr'))
    (hu : P.underlying ty = some d) (hd : (match d with | .struct _ | .array _ _ => true | _ => false) = true) (hi : (P.info? ty).map (·.size) = some cs.size)
    (hu' : P.underlying ty' = some d') (hd' : (match d' with | .struct _ | .array _ _ => true | _ => false) = true) (hi' : (P.info? ty').map (·.size) = some cs'.size) :
    (results fn tmps).run P w = .ok (.tuple #[.agg cs, .agg cs']) w := by
  have hp' : tmps[p]?.getD undef = .pointer (some ⟨g, 0, none⟩) := by simpa using hp
  have hq' : tmps[q]?.getD undef = .pointer (some ⟨g', 0, none⟩) := by simpa using hq
  simp [results, h, hp', hq', asAddr, run_loadVar_row w g t ty cs fr d hg hu hd hi, run_loadVar_row w g' t' ty' cs' fr' d' hg' hu' hd' hi']
section
variable {P : Program} {ops : Array Oper} {Q : Exit → Act → World → Prop} {o : Oper} {a : Act} {w : World}
theorem wpList_build {rest : List Oper} (hgd : o.guard = none) (t : TypeId) (parts : Array (Nat × Operand)) (ho : o.op = .build t parts) (v : Value) (vs : Array (Nat × Value)) (hrun : ∀ wx, (Instr.build t vs).run P wx = .ok v wx) (hvs : (parts.map fun p => (p.1, a.eval p.2)) = vs) (h : wpList P ops Q rest (a.put o.dst v) w) : wpList P ops Q (o :: rest) a w := by
  refine wpList_plain hgd fun K hK => ?_
  subst hvs
  unfold Oper.wp execOp
  simp only [ho, Sem.run_bind, hrun, Result.andThen_ok, Sem.run_pure]
  exact hK _ _ h
theorem mix_build {S : World → Prop} {eff rd ds : List Nat} {rest : Plan} {i : Nat} (hoi : ops[i]? = some o) (he : eff.contains i = false) (hw : Region.wanted o (yielded ops a.tmps) = true) (t : TypeId) (parts : Array (Nat × Operand)) (ho : o.op = .build t parts) (v : Value) (vs : Array (Nat × Value)) (hrun : ∀ wx, (Instr.build t vs).run P wx = .ok v wx) (hvs : (parts.map fun p => (p.1, a.eval p.2)) = vs)
    (h : wpMix P ops Q S eff rd ds rest (a.put o.dst v) w) : wpMix P ops Q S eff rd ds (.step i rest) a w := by
  refine mix_pure hoi he fun K hK => ?_
  rw [if_pos hw]
  refine ⟨v, fun w' => ?_, hK _ h⟩
  subst hvs
  unfold execOp
  simp only [ho, Sem.run_bind, hrun, Result.andThen_ok, Sem.run_pure]
theorem wpList_load_rd {rest : List Oper} (hgd : o.guard = none) (ty : TypeId) (x : Operand) (ho : o.op = .load ty x) (g off : Nat) (hx : a.eval x = .pointer (some ⟨g, off, none⟩)) (k : IntKind) {n : Nat} (l : List (BitVec n)) (hR : Rd w k (some ⟨g, off, none⟩) l) (d : TypeDesc) (hu : P.underlying ty = some d) (hd : (match d with | .struct _ | .array _ _ => true | _ => false) = true) (hi : (P.info? ty).map (·.size) = some l.length)
    (h : wpList P ops Q rest (a.put o.dst (.agg (encs k l))) w) : wpList P ops Q (o :: rest) a w := by
  refine wpList_plain hgd fun K hK => ?_
  unfold Oper.wp execOp
  simp only [ho, hx, Instr.loadAt, Instr.sureAddr, Sem.run_bind, Sem.run_pure, Result.andThen_ok, run_loadVar_rd w g off ty k l hR d hu hd hi]
  exact hK _ _ h
theorem mix_load_rd {S : World → Prop} {eff rd ds : List Nat} {rest : Plan} {i : Nat} (hoi : ops[i]? = some o) (he : eff.contains i = false) (hr : rd.contains i = true) (hw : Region.wanted o (yielded ops a.tmps) = true) (ty : TypeId) (x : Operand) (ho : o.op = .load ty x) (g off : Nat) (hx : a.eval x = .pointer (some ⟨g, off, none⟩)) (k : IntKind) {n : Nat} (l : List (BitVec n))
    (hR : ∀ w', S w' → Rd w' k (some ⟨g, off, none⟩) l) (d : TypeDesc) (hu : P.underlying ty = some d) (hd : (match d with | .struct _ | .array _ _ => true | _ => false) = true) (hi : (P.info? ty).map (·.size) = some l.length)
    (h : wpMix P ops Q S eff rd ds rest (a.put o.dst (.agg (encs k l))) w) : wpMix P ops Q S eff rd ds (.step i rest) a w := by
  refine mix_read (.agg (encs k l)) hoi he hr hw (fun w' hs' => ?_) h
  unfold execOp
  simp only [ho, hx, Instr.loadAt, Instr.sureAddr, Sem.run_bind, Sem.run_pure, Result.andThen_ok, run_loadVar_rd w' g off ty k l (hR w' hs') d hu hd hi]
end
end Go.Proofs.Ytjghhbollgggoaa
