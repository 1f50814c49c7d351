/- Slices whose elements are of several cells: as lists of elements. -/
import Derived.Test.YtjghhbollgggoaaRow
import Derived.Test.YtjghhbollgggoaaPart
import Derived.Test.YtjghhbollgggoaaBuild
import Derived.Laws.OwnMore
namespace Go.Proofs.Ytjghhbollgggoaa
open Go.RowKit
set_option linter.unusedVariables false
set_option linter.unusedSimpArgs false
/-- A slice type, and its elements as plain things. -/
structure El (P : Program) (E : Type) where
  t : TypeId
  e : TypeId
  z : Value
  size : Nat
  bytes : Nat
  T : ElemT P t e z size bytes
  f : E → List Value
  ok : E → Prop
  len : ∀ x, ok x → (f x).length = size
  one : ∀ x, ok x → ∀ u ∈ f x, u.oneCell' = true
variable {P : Program} {E : Type} {L : El P E}
theorem flat_len {l : List E} (h : ∀ x ∈ l, L.ok x) : (l.flatMap L.f).length = l.length * L.size := by
  induction l with
  | nil => simp
  | cons x l ih =>
    rw [List.flatMap_cons, List.length_append, L.len x (h x (by simp)), ih (fun y hy => h y (by simp [hy])), List.length_cons, Nat.add_mul]
    omega
theorem flat_one {l : List E} (h : ∀ x ∈ l, L.ok x) : ∀ u ∈ l.flatMap L.f, u.oneCell' = true := by
  intro u hu
  obtain ⟨x, hx, hu⟩ := List.mem_flatMap.1 hu
  exact L.one x (h x hx) u hu
theorem flat_get {l : List E} (h : ∀ x ∈ l, L.ok x) : ∀ (i : Nat) (x : E), l[i]? = some x → ∀ (j : Nat) (u : Value), (L.f x)[j]? = some u → (l.flatMap L.f)[i * L.size + j]? = some u := by
  induction l with
  | nil => intro i x hx; simp at hx
  | cons y l ih =>
    intro i x hx j u hu
    rw [List.flatMap_cons]
    have hy := L.len y (h y (by simp))
    cases i with
    | zero =>
      simp only [List.getElem?_cons_zero, Option.some.injEq] at hx
      subst hx
      have := (List.getElem?_eq_some_iff.1 hu).1
      rw [Nat.zero_mul, Nat.zero_add, List.getElem?_append_left this, hu]
    | succ i =>
      rw [List.getElem?_append_right (by rw [hy, Nat.add_mul]; omega), hy, show (i + 1) * L.size + j - L.size = i * L.size + j by rw [Nat.add_mul]; omega]
      exact ih (fun y hy => h y (by simp [hy])) i x (by simpa using hx) j u hu
theorem mem_of_get {α : Type} {l : List α} {i : Nat} {x : α} (h : l[i]? = some x) : x ∈ l := List.mem_of_getElem? h
/-- A value that reads as a list of elements. -/
def ArgE (L : El P E) (w : World) (v : Value) (l : List E) : Prop := ∃ A cap, v = .slice A l.length cap ∧ l.length ≤ cap ∧ (∀ x ∈ l, L.ok x) ∧ Cells w A (l.flatMap L.f)
theorem ArgE.below {w w' : World} {v : Value} {l : List E} (h : ArgE L w v l) (hb : Below w.heap.size w w') : ArgE L w' v l :=
  let ⟨A, cap, h1, h2, h3, h4⟩ := h
  ⟨A, cap, h1, h2, h3, h4.below hb⟩
theorem ArgE.nil (w : World) : ArgE L w (.slice none 0 0) [] := ⟨none, 0, rfl, Nat.le_refl _, fun x hx => by simp at hx, Cells.nil _ _⟩
theorem ArgE.drew {w : World} {v : Value} {l : List E} (h : ArgE L w v l) : ArgE L w.drew v l := h
/-- An element that lies at a place. -/
def AtE (L : El P E) (w : World) (g off : Nat) (x : E) : Prop := ∀ j u, (L.f x)[j]? = some u → w.cell? ⟨g, off + j, none⟩ = some u
theorem AtE.below {w w' : World} {g off : Nat} {x : E} (h : AtE L w g off x) (hb : Below w.heap.size w w') : AtE L w' g off x := fun j u hu => below_cell hb (h j u hu)
theorem cells_at {w : World} {A : Option Addr} {l : List E} (hok : ∀ x ∈ l, L.ok x) (hc : Cells w A (l.flatMap L.f)) {i : Nat} {x : E} (hx : l[i]? = some x) : ∃ g off, A = some ⟨g, off, none⟩ ∧ AtE L w g (off + i * L.size) x := by
  have hmem := mem_of_get hx
  have hlen : 0 < (l.flatMap L.f).length := by
    rw [flat_len hok]
    exact Nat.mul_pos (List.length_pos_of_mem hmem) L.T.hs
  obtain ⟨a, rfl, hc0⟩ := hc 0 _ (List.getElem?_eq_getElem hlen)
  obtain ⟨bb, off, spot⟩ := a
  have hspot0 : spot = none := by simpa [Addr.add] using World.cell?_spot hc0
  subst hspot0
  refine ⟨bb, off, rfl, fun j u hu => ?_⟩
  obtain ⟨a, ha, hcell⟩ := hc _ _ (flat_get hok i x hx j u hu)
  cases ha
  rw [add_lit] at hcell
  rw [Nat.add_assoc]
  exact hcell
/-- A value that owns its elements. -/
def OwnE (L : El P E) (w : World) (base : Nat) (v : Value) (l : List E) : Prop := (∀ x ∈ l, L.ok x) ∧ w.ownsRow base L.e L.size v l.length (l.flatMap L.f)
theorem OwnE.arg {w : World} {base : Nat} {v : Value} {l : List E} (h : OwnE L w base v l) : ArgE L w v l := by
  obtain ⟨h1, h2⟩ := h
  obtain ⟨A, cap, rfl, hc, _, hC, _⟩ := owns_form h2
  exact ⟨A, cap, rfl, hc, h1, hC⟩
theorem OwnE.below {w w' : World} {base : Nat} {v : Value} {l : List E} (h : OwnE L w base v l) (hb : Below w.heap.size w w') : OwnE L w' base v l := ⟨h.1, owns_below h.2 hb⟩
theorem OwnE.base {w : World} {base base' : Nat} {v : Value} {l : List E} (h : OwnE L w base v l) (hb : base' ≤ base) : OwnE L w base' v l := ⟨h.1, owns_base h.2 hb⟩
theorem OwnE.nil (w : World) (base : Nat) : OwnE L w base (.slice none 0 0) [] := ⟨fun x hx => by simp at hx, by simp, .inl ⟨rfl, rfl⟩⟩
theorem OwnE.drew {w : World} {base : Nat} {v : Value} {l : List E} (h : OwnE L w base v l) : OwnE L w.drew base v l := h
theorem OwnE.made (w : World) {base : Nat} (cur : Array Value) (cap : Nat) (hb : base ≤ w.heap.size) (hm : cap ≤ maxLen) (hs : cur.size = cap * L.size) : OwnE L (w.alloc (.cells cur L.e)) base (.slice (some ⟨w.heap.size, 0, none⟩) 0 cap) [] :=
  ⟨fun x hx => by simp at hx, World.ownsRow_made _ _ _ hb hm hs⟩
theorem OwnE.empty (w : World) {base : Nat} (hb : base ≤ w.heap.size) : OwnE L (w.alloc (.cells #[] L.e)) base (.slice (some ⟨w.heap.size, 0, none⟩) 0 0) [] := OwnE.made w #[] 0 hb (Nat.zero_le _) (by simp)
theorem OwnE.ofBlk {w : World} {base g : Nat} {x : E} (hB : Blk w g (L.f x).toArray L.e) (hb : base ≤ g) (hx : L.ok x) : OwnE L w base (.slice (some ⟨g, 0, none⟩) 1 1) [x] :=
  ⟨fun y hy => by simp at hy; subst hy; exact hx, by simp [L.len x hx], .inr ⟨g, 1, _, rfl, hb, hB, Nat.le_refl _, by unfold maxLen; omega, by simp [L.len x hx], by simp [L.len x hx, List.take_of_length_le]⟩⟩
theorem OwnE.lt {w : World} {base : Nat} {v : Value} {l : List E} (h : OwnE L w base v l) : ∀ k, v.ownBlock = some k → base ≤ k ∧ k < w.heap.size := h.2.lt
theorem OwnE.grown {w w' : World} {base : Nat} {v u : Value} {l : List E} (h : OwnE L w base v l) (hg : w.grownBy w' u.ownBlock) (hne : ∀ k, v.ownBlock = some k → u.ownBlock ≠ some k) : OwnE L w' base v l := by
  refine ⟨h.1, h.2.1, ?_⟩
  rcases h.2.2 with h2 | ⟨g', cap, cur, hv, hg', hlt, r⟩
  · exact .inl h2
  · exact .inr ⟨g', cap, cur, hv, hg', (hg.block g' (Array.getElem?_eq_some_iff.1 hlt).1 (fun e => hne g' (by rw [hv]; rfl) e.symm)).trans hlt, r⟩
theorem OwnE.upd {w w' : World} {base g : Nat} {v : Value} {l : List E} (h : OwnE L w base v l) (hu : Upd g w w') (hg : g < base) : OwnE L w' base v l := by
  refine ⟨h.1, h.2.1, ?_⟩
  rcases h.2.2 with h2 | ⟨g', cap, cur, hv, hg', hlt, r⟩
  · exact .inl h2
  · exact .inr ⟨g', cap, cur, hv, hg', (hu.block g' (Array.getElem?_eq_some_iff.1 hlt).1 (by omega)).trans hlt, r⟩
/-- Elements loaded as whole values. -/
theorem run_loadVar_cells {P : Program} (w : World) (g off : Nat) (ty : TypeId) (seg : List Value) (hc : ∀ (j : Nat) v, seg[j]? = some v → w.cell? ⟨g, off + j, none⟩ = some v) (d : TypeDesc) (hu : P.underlying ty = some d) (hd : (match d with | .struct _ | .array _ _ => true | _ => false) = true) (hi : (P.info? ty).map (·.size) = some seg.length) :
    (loadVar ty ⟨g, off, none⟩).run P w = .ok (.agg seg.toArray) w := by
  have hl : (loadCells ⟨g, off, none⟩ seg.length).run P w = .ok seg.toArray w :=
    run_loadCells_list (P := P) w ⟨g, off, none⟩ seg (fun j v hv => by rw [add_lit]; exact hc j v hv)
  cases hq : P.info? ty with
  | none => simp [hq] at hi
  | some i =>
    have hs : i.size = seg.length := by simpa [hq] using hi
    have hagg : (isAgg ty).run P w = .ok true w := by
      unfold isAgg
      rw [Sem.run_bind, run_underlying hu w]
      cases d <;> simp_all
    simp [loadVar, Sem.run_bind, hagg, sizeOf, typeInfo, hq, hs, hl]
section
variable {ops : Array Oper} {rest : List Oper} {o : Oper} {a : Act} {Q : Exit → Act → World → Prop} {w : World}
theorem wp_load_cells {K : Act → World → Prop} (ty : TypeId) (x : Operand) (ho : o.op = .load ty x) (g off : Nat) (hx : a.eval x = .pointer (some ⟨g, off, none⟩)) (seg : List Value) (hc : ∀ (j : Nat) v, seg[j]? = some v → w.cell? ⟨g, off + j, none⟩ = some v) (d : TypeDesc) (hu : P.underlying ty = some d) (hd : (match d with | .struct _ | .array _ _ => true | _ => false) = true) (hi : (P.info? ty).map (·.size) = some seg.length)
    (h : K (a.put o.dst (.agg seg.toArray)) w) : o.wp P a w K Q := by
  unfold Oper.wp execOp
  simp only [ho, hx, Instr.loadAt, Instr.sureAddr, Sem.run_bind, Sem.run_pure, Result.andThen_ok, run_loadVar_cells w g off ty seg hc d hu hd hi]
  exact h
theorem wpList_load_cells (hgd : o.guard = none) (ty : TypeId) (x : Operand) (ho : o.op = .load ty x) (g off : Nat) (hx : a.eval x = .pointer (some ⟨g, off, none⟩)) (seg : List Value) (hc : ∀ (j : Nat) v, seg[j]? = some v → w.cell? ⟨g, off + j, none⟩ = some v) (d : TypeDesc) (hu : P.underlying ty = some d) (hd : (match d with | .struct _ | .array _ _ => true | _ => false) = true) (hi : (P.info? ty).map (·.size) = some seg.length)
    (h : wpList P ops Q rest (a.put o.dst (.agg seg.toArray)) w) : wpList P ops Q (o :: rest) a w :=
  wpList_plain hgd fun _ hK => wp_load_cells ty x ho g off hx seg hc d hu hd hi (hK _ _ h)
theorem wpList_load_cells_g (hw : Region.wanted o (yielded ops a.tmps) = true) (ty : TypeId) (x : Operand) (ho : o.op = .load ty x) (g off : Nat) (hx : a.eval x = .pointer (some ⟨g, off, none⟩)) (seg : List Value) (hc : ∀ (j : Nat) v, seg[j]? = some v → w.cell? ⟨g, off + j, none⟩ = some v) (d : TypeDesc) (hu : P.underlying ty = some d) (hd : (match d with | .struct _ | .array _ _ => true | _ => false) = true) (hi : (P.info? ty).map (·.size) = some seg.length)
    (h : wpList P ops Q rest (a.put o.dst (.agg seg.toArray)) w) : wpList P ops Q (o :: rest) a w := by
  refine wpList_step fun K hK => ?_
  rw [if_pos hw]
  exact wp_load_cells ty x ho g off hx seg hc d hu hd hi (hK _ _ h)
theorem wpList_load_row_ga (hw : Region.wanted o (yielded ops a.tmps) = true) (ty : TypeId) (x : Operand) (ho : o.op = .load ty x)
    (g : Nat) (hx : a.eval x = .pointer (some ⟨g, 0, none⟩)) (t : TypeId) (cs : Array Value) (fr : Nat × Nat) (d : TypeDesc) (hg : w.heap[g]? = some (.cells cs t fr))
    (hu : P.underlying ty = some d) (hd : (match d with | .struct _ | .array _ _ => true | _ => false) = true) (hi : (P.info? ty).map (·.size) = some cs.size)
    (h : wpList P ops Q rest (a.put o.dst (.agg cs)) w) : wpList P ops Q (o :: rest) a w := by
  refine wpList_step fun K hK => ?_
  rw [if_pos hw]
  exact wp_load_row ty x ho g hx t cs fr d hg hu hd hi (hK _ _ h)
theorem mix_load_cells {S : World → Prop} {eff rd ds : List Nat} {rest : Plan} {i : Nat} (hoi : ops[i]? = some o) (he : eff.contains i = false) (hr : rd.contains i = true) (hw : Region.wanted o (yielded ops a.tmps) = true) (ty : TypeId) (x : Operand) (ho : o.op = .load ty x) (g off : Nat) (hx : a.eval x = .pointer (some ⟨g, off, none⟩)) (seg : List Value)
    (hc : ∀ w', S w' → ∀ (j : Nat) v, seg[j]? = some v → w'.cell? ⟨g, off + j, none⟩ = some v) (d : TypeDesc) (hu : P.underlying ty = some d) (hd : (match d with | .struct _ | .array _ _ => true | _ => false) = true) (hi : (P.info? ty).map (·.size) = some seg.length)
    (h : wpMix P ops Q S eff rd ds rest (a.put o.dst (.agg seg.toArray)) w) : wpMix P ops Q S eff rd ds (.step i rest) a w := by
  refine mix_read (.agg seg.toArray) hoi he hr hw (fun w' hs' => ?_) h
  unfold execOp
  simp only [ho, hx, Instr.loadAt, Instr.sureAddr, Sem.run_bind, Sem.run_pure, Result.andThen_ok, run_loadVar_cells w' g off ty seg (hc w' hs') d hu hd hi]
/-- Elements appended onto an owned row. -/
theorem wp_appE {K : Act → World → Prop} (L : El P E) (s x : Operand) (ho : o.op = .call { callee := .builtin .append, args := #[s, x], argTypes := #[L.t, L.t] })
    (base : Nat) (v : Value) (l : List E) (hs : a.eval s = v) (hown : OwnE L w base v l) (u : Value) (m : List E) (hx : a.eval x = u) (ha : ArgE L w u m)
    (hbytes : (l.length + m.length) * L.bytes ≤ 140737488355328) (hbase : base ≤ w.heap.size)
    (h : ∀ v' w', OwnE L w' base v' (l ++ m) → w.grownBy w' v.ownBlock → (v'.ownBlock = v.ownBlock ∨ v'.ownBlock = some w.heap.size) → Below base w w' → K (a.put o.dst v') w') : o.wp P a w K Q := by
  obtain ⟨A, c, rfl, hc, hok, hr⟩ := ha
  refine wp_append_row s x L.T ho base v l.length _ hs hown.2 A m.length c (m.flatMap L.f) hx (flat_len hok) hr (flat_one hok) hbytes hbase ?_
  intro v' w' h2 hgr hbl
  refine h v' w' ⟨fun y hy => (List.mem_append.1 hy).elim (hown.1 y) (hok y), ?_⟩ hgr hbl (below_grown (Below.refl _ _) hbase hgr (fun q hq => (hown.2.lt q hq).1))
  rw [List.length_append, List.flatMap_append]
  exact h2
theorem step_appE {K : Act → World → Prop} {F : Prop} (L : El P E) (hgd : o.guard = none) (s x : Operand) (ho : o.op = .call { callee := .builtin .append, args := #[s, x], argTypes := #[L.t, L.t] })
    (base : Nat) (v : Value) (l : List E) (hs : a.eval s = v) (hown : OwnE L w base v l) (u : Value) (m : List E) (hx : a.eval x = u) (ha : ArgE L w u m)
    (hbytes : (l.length + m.length) * L.bytes ≤ 140737488355328) (hbase : base ≤ w.heap.size)
    (h : ∀ v' w', OwnE L w' base v' (l ++ m) → w.grownBy w' v.ownBlock → (v'.ownBlock = v.ownBlock ∨ v'.ownBlock = some w.heap.size) → Below base w w' → K (a.put o.dst v') w') :
    if Region.wanted o (yielded ops a.tmps) = true then Oper.wp P o a w K Q else F := by
  have hw : Region.wanted o (yielded ops a.tmps) = true := by simp [Region.wanted, hgd]
  rw [if_pos hw]
  exact wp_appE L s x ho base v l hs hown u m hx ha hbytes hbase h
theorem wpList_appE (L : El P E) (hgd : o.guard = none) (s x : Operand) (ho : o.op = .call { callee := .builtin .append, args := #[s, x], argTypes := #[L.t, L.t] })
    (base : Nat) (v : Value) (l : List E) (hs : a.eval s = v) (hown : OwnE L w base v l) (u : Value) (m : List E) (hx : a.eval x = u) (ha : ArgE L w u m)
    (hbytes : (l.length + m.length) * L.bytes ≤ 140737488355328) (hbase : base ≤ w.heap.size)
    (h : ∀ v' w', OwnE L w' base v' (l ++ m) → w.grownBy w' v.ownBlock → (v'.ownBlock = v.ownBlock ∨ v'.ownBlock = some w.heap.size) → Below base w w' → wpList P ops Q rest (a.put o.dst v') w') : wpList P ops Q (o :: rest) a w :=
  wpList_plain hgd fun _ hK => wp_appE L s x ho base v l hs hown u m hx ha hbytes hbase fun v' w' h1 h2 h3 h4 => hK _ _ (h v' w' h1 h2 h3 h4)
end
/-- A slice of one element, built. -/
theorem run_bslice_one {P : Program} {t e : TypeId} {zs : Array Value} {size bytes : Nat} (hT : ElemT P t e (.agg zs) size bytes) (hs24 : size ≤ 16777216) (hzv : ∀ w, (zeroValue e).run P w = .ok (.agg zs) w) (k : Array Value) (hk : k.size = size) (w : World) :
    (Instr.buildSlice t 1 #[(0, .agg k)]).run P w = .ok (.slice (some ⟨w.heap.size, 0, none⟩) 1 1) (w.alloc (.cells k e)) := by
  obtain ⟨i, hi, hz, hsz, hb⟩ := info_parts hT.hi
  have hzs : zs.size = size := by have := hT.hz; simpa [Value.cells] using this
  have hso : (sizeOf e).run P w = .ok size w := by simp [sizeOf, typeInfo, hi, hsz]
  have hf := fill_tiles (fun i => some (i * size, size)) [.agg k] 0 [] zs.toList (fun j p h => by
    have e : (Value.cells (.agg k)).size = size := by simp [Value.cells, hk]
    rcases j with _ | j
    · simp [tiles, e] at h
      subst h
      simp
    · simp [tiles] at h) (by simp [catCells, Value.cells, hk, hzs])
  have e5 : (catCells [.agg k]).length = size := by simp [catCells, Value.cells, hk]
  have e6 : (zs.toList.drop size) = [] := List.drop_of_length_le (by simp [hzs])
  rw [e5, e6, List.append_nil, List.nil_append, List.nil_append, Array.toArray_toList] at hf
  have e7 : (catCells [.agg k]).toArray = k := by simp [catCells, Value.cells]
  rw [e7] at hf
  have hzr : (Array.range (1 * size)).map (zs[· % zs.size]!) = zs := by
    apply Array.ext
    · simp [hzs]
    · intro i h1 h2
      have h3 : i < zs.size := h2
      simp [Nat.mod_eq_of_lt h3, h3]
  unfold Instr.buildSlice
  have n24 : ¬ (2 ^ 24 < 1 * size) := by omega
  have n0 : ¬ (1 * size = 0) := by have := hT.hs; omega
  simp only [Sem.run_bind, run_underlying hT.ht, Result.andThen_ok, hso, hzv, Sem.run_pure]
  simp only [gt_iff_lt, n24, n0, if_false, Sem.run_pure, Sem.run_bind, Result.andThen_ok, hzv]
  simp only [Value.cells, hzr, List.toList_toArray] at *
  rw [show [((0 : Nat), Value.agg k)] = partsFrom 0 [Value.agg k] from rfl, hf]
  rfl
section
variable {ops : Array Oper} {rest : List Oper} {o : Oper} {a : Act} {Q : Exit → Act → World → Prop} {w : World}
theorem step_bslice_one {K : Act → World → Prop} {F : Prop} {t e : TypeId} {zs : Array Value} {size bytes : Nat} (hT : ElemT P t e (.agg zs) size bytes) (hs24 : size ≤ 16777216) (hzv : ∀ w, (zeroValue e).run P w = .ok (.agg zs) w) (hgd : o.guard = none) (x : Operand) (ho : o.op = .buildSlice t 1 #[(0, x)]) (k : Array Value) (hk : k.size = size) (hx : a.eval x = .agg k)
    (h : K (a.put o.dst (.slice (some ⟨w.heap.size, 0, none⟩) 1 1)) (w.alloc (.cells k e))) : if Region.wanted o (yielded ops a.tmps) = true then Oper.wp P o a w K Q else F := by
  have hw : Region.wanted o (yielded ops a.tmps) = true := by simp [Region.wanted, hgd]
  have hb := run_bslice_one hT hs24 hzv k hk w
  rw [← hx] at hb
  rw [if_pos hw]
  unfold Oper.wp execOp
  simp only [ho, Sem.run_bind, List.map_toArray, List.map_cons, List.map_nil, hb, Result.andThen_ok, Sem.run_pure]
  exact h
theorem wpList_bslice_one {t e : TypeId} {zs : Array Value} {size bytes : Nat} (hT : ElemT P t e (.agg zs) size bytes) (hs24 : size ≤ 16777216) (hzv : ∀ w, (zeroValue e).run P w = .ok (.agg zs) w) (hgd : o.guard = none) (x : Operand) (ho : o.op = .buildSlice t 1 #[(0, x)]) (k : Array Value) (hk : k.size = size) (hx : a.eval x = .agg k)
    (h : wpList P ops Q rest (a.put o.dst (.slice (some ⟨w.heap.size, 0, none⟩) 1 1)) (w.alloc (.cells k e))) : wpList P ops Q (o :: rest) a w := by
  refine wpList_plain hgd fun K hK => ?_
  have hb := run_bslice_one hT hs24 hzv k hk w
  rw [← hx] at hb
  unfold Oper.wp execOp
  simp only [ho, Sem.run_bind, List.map_toArray, List.map_cons, List.map_nil, hb, Result.andThen_ok, Sem.run_pure]
  exact hK _ _ h
end
end Go.Proofs.Ytjghhbollgggoaa
