/- Rows of cells that the function owns, and rows that it reads: what append does of any source, at an operation. -/
import Derived.Test.YtjghhbollgggoaaMem
import Derived.Test.YtjghhbollgggoaaMix
import Derived.Maps.AppendAt
import Derived.Deep.AppendLies
import Derived.Laws.MakeOwn
import Derived.Laws.CopyRow
import Derived.Laws.IdiomCopy
import Derived.Lib.Hide
namespace Go.Proofs.Ytjghhbollgggoaa
open Go.RowKit
set_option linter.unusedVariables false
set_option linter.unusedSimpArgs false

/-- The cells of a list of words, as a list. -/
def encL (k : IntKind) {n : Nat} (l : List (BitVec n)) : List Value := l.map fun x => Value.int k (wb x)
theorem encL_length (k : IntKind) {n : Nat} (l : List (BitVec n)) : (encL k l).length = l.length := by simp [encL]
theorem encL_toArray (k : IntKind) {n : Nat} (l : List (BitVec n)) : (encL k l).toArray = encs k l := rfl
theorem encs_toList (k : IntKind) {n : Nat} (l : List (BitVec n)) : (encs k l).toList = encL k l := by simp [encs, encL]
theorem encL_append (k : IntKind) {n : Nat} (l m : List (BitVec n)) : encL k (l ++ m) = encL k l ++ encL k m := by simp [encL]
theorem encL_get (k : IntKind) {n : Nat} (l : List (BitVec n)) (j : Nat) (h : j < l.length) : (encL k l)[j]? = some (.int k (wb (l.getD j 0))) := by simp [encL, List.getD, h]
theorem encL_one (k : IntKind) {n : Nat} (l : List (BitVec n)) : ∀ u ∈ encL k l, u.oneCell' = true := by
  intro u hu
  simp only [encL, List.mem_map] at hu
  obtain ⟨x, _, rfl⟩ := hu
  rfl
theorem add_lit (g off j : Nat) : (⟨g, off, none⟩ : Addr).add j = ⟨g, off + j, none⟩ := by unfold Addr.add; split <;> simp_all

/-- What is known of a slice's type and its elements'. -/
structure ElemT (P : Program) (t e : TypeId) (z : Value) (size bytes : Nat) : Prop where
  ht : P.underlying t = some (.slice e)
  hi : (P.info? e).map (fun i => (i.zero, i.size, i.bytes)) = some (some z, size, bytes)
  hz : z.cells.size = size
  hs : 0 < size
  hb : 0 < bytes

/-- A slice that reads as cells (its address is asked for only where there is a cell). -/
def Cells (w : World) (A : Option Addr) (xs : List Value) : Prop := ∀ j u, xs[j]? = some u → ∃ a, A = some a ∧ w.cell? (a.add j) = some u
theorem Cells.nil (w : World) (A : Option Addr) : Cells w A [] := fun j u h => by simp at h
theorem Cells.below {w w' : World} {A : Option Addr} {xs : List Value} (h : Cells w A xs) (hb : Below w.heap.size w w') : Cells w' A xs := fun j u hu =>
  let ⟨a, hA, hc⟩ := h j u hu
  ⟨a, hA, below_cell hb hc⟩
theorem Cells.below0 {w0 w w' : World} {A : Option Addr} {xs : List Value} (h : Cells w0 A xs) (hb : Below w0.heap.size w0 w') : Cells w' A xs := h.below hb
theorem Rd.cells {w : World} {k : IntKind} {n : Nat} {A : Option Addr} {l : List (BitVec n)} (h : Rd w k A l) : Cells w A (encL k l) := fun j u hu => by
  have hj : j < l.length := by
    have := (List.getElem?_eq_some_iff.1 hu).1
    simpa [encL] using this
  obtain ⟨g, off, rfl, hc⟩ := h j hj
  refine ⟨_, rfl, ?_⟩
  rw [add_lit, hc]
  rw [encL_get k l j hj] at hu
  exact hu
theorem Blk.cells {w : World} {g : Nat} {cs : Array Value} {ty : TypeId} (h : Blk w g cs ty) : Cells w (some ⟨g, 0, none⟩) cs.toList := fun j u hu => by
  refine ⟨_, rfl, ?_⟩
  rw [add_lit, Nat.zero_add, h.cell]
  simpa using hu
theorem Blk.cellsAt {w : World} {g off : Nat} {cs : Array Value} {ty : TypeId} {xs : List Value} (h : Blk w g cs ty) (hs : ∀ j u, xs[j]? = some u → cs[off + j]? = some u) : Cells w (some ⟨g, off, none⟩) xs := fun j u hu => by
  refine ⟨_, rfl, ?_⟩
  rw [add_lit, h.cell]
  exact hs j u hu
theorem cells_words_rd {w : World} {k : IntKind} {n g off : Nat} {l : List (BitVec n)} (h : Cells w (some ⟨g, off, none⟩) (encL k l)) : Rd w k (some ⟨g, off, none⟩) l := fun i hi => by
  obtain ⟨a, ha, hc⟩ := h i _ (encL_get k l i hi)
  cases ha
  rw [add_lit] at hc
  exact ⟨g, off, rfl, hc⟩

theorem below_grown {B : Nat} {a w w' : World} {row : Option Nat} (h : Below B a w) (hB : B ≤ w.heap.size) (hg : w.grownBy w' row) (hr : ∀ k, row = some k → B ≤ k) : Below B a w' :=
  h.trans ⟨hg.os, hg.tape, hg.output, hg.size, fun k hk => hg.block k (by omega) (fun e => by have := hr k e.symm; omega)⟩
theorem Blk.grown {w w' : World} {g : Nat} {cs : Array Value} {ty : TypeId} {row : Option Nat} (h : Blk w g cs ty) (hg : w.grownBy w' row) (hr : row ≠ some g) : Blk w' g cs ty := (hg.block g h.lt (fun e => hr e.symm)).trans h
theorem Rd.grown {w w' : World} {k : IntKind} {n : Nat} {A : Option Addr} {l : List (BitVec n)} {row : Option Nat} (h : Rd w k A l) (hg : w.grownBy w' row) (hr : ∀ a, A = some a → row ≠ some a.block) : Rd w' k A l := fun i hi => by
  obtain ⟨g, off, rfl, hc⟩ := h i hi
  exact ⟨g, off, rfl, (hg.cell_far _ (World.block_lt_of_cell? _ _ hc) (fun e => hr _ rfl e.symm)).trans hc⟩
theorem Cells.grown {w w' : World} {A : Option Addr} {xs : List Value} {row : Option Nat} (h : Cells w A xs) (hg : w.grownBy w' row) (hr : ∀ a, A = some a → row ≠ some a.block) : Cells w' A xs := fun j u hu => by
  obtain ⟨a, rfl, hc⟩ := h j u hu
  have hb : (a.add j).block = a.block := by unfold Addr.add; split <;> rfl
  exact ⟨a, rfl, (hg.cell_far _ (World.block_lt_of_cell? _ _ hc) (by rw [hb]; exact fun e => hr _ rfl e.symm)).trans hc⟩
theorem owns_below {w w' : World} {base size n : Nat} {e : TypeId} {v : Value} {xs : List Value} (h : w.ownsRow base e size v n xs) (hb : Below w.heap.size w w') : w'.ownsRow base e size v n xs :=
  h.kept (row := none) ⟨hb.os, hb.tape, hb.output, hb.size, fun k hk _ => hb.block k hk⟩ (by by_cases h : v.ownBlock = none; exact .inl h; exact .inr h)
theorem owns_base {w : World} {base base' size n : Nat} {e : TypeId} {v : Value} {xs : List Value} (h : w.ownsRow base e size v n xs) (hb : base' ≤ base) : w.ownsRow base' e size v n xs := by
  refine ⟨h.1, ?_⟩
  rcases h.2 with h2 | ⟨g, cap, cur, hv, hg, r⟩
  · exact .inl h2
  · exact .inr ⟨g, cap, cur, hv, Nat.le_trans hb hg, r⟩
/-- What an owned slice is: nil, or the head of a block of its own. -/
theorem owns_form {w : World} {base size n : Nat} {e : TypeId} {v : Value} {xs : List Value} (h : w.ownsRow base e size v n xs) : ∃ A cap, v = .slice A n cap ∧ n ≤ cap ∧ cap ≤ maxLen ∧ Cells w A xs ∧ (A = none → n = 0 ∧ cap = 0) ∧ (∀ a, A = some a → a.off = 0 ∧ a.spot = none ∧ base ≤ a.block ∧ a.block < w.heap.size ∧ v.ownBlock = some a.block) := by
  have h0 := h
  rcases h.2 with ⟨rfl, rfl⟩ | ⟨g, cap, cur, rfl, hb, hg, hc, hm, hcs, ht⟩
  · have hx : xs = [] := List.eq_nil_of_length_eq_zero (by simpa using h.1)
    subst hx
    exact ⟨none, 0, rfl, Nat.le_refl _, Nat.zero_le _, Cells.nil _ _, fun _ => ⟨rfl, rfl⟩, fun a ha => by cases ha⟩
  · refine ⟨_, cap, rfl, hc, hm, fun j u hu => ⟨_, rfl, h0.cells (g := g) rfl j u hu⟩, (fun ha => by cases ha), fun a ha => ?_⟩
    cases ha
    exact ⟨rfl, rfl, hb, (Array.getElem?_eq_some_iff.1 hg).1, rfl⟩
theorem ownsRow_rd {w : World} {base : Nat} {ty : TypeId} {v : Value} {k : IntKind} {n : Nat} {l : List (BitVec n)} (h : w.ownsRow base ty 1 v l.length (encL k l)) : ∃ A cap, v = .slice A l.length cap ∧ l.length ≤ cap ∧ Rd w k A l := by
  obtain ⟨A, cap, hv, hc, _, hC, _, ha⟩ := owns_form h
  refine ⟨A, cap, hv, hc, fun i hi => ?_⟩
  obtain ⟨a, rfl, hx⟩ := hC i _ (encL_get k l i hi)
  obtain ⟨h1, h2, _⟩ := ha a rfl
  obtain ⟨g, off, spot⟩ := a
  simp only at h1 h2
  subst h1 h2
  rw [add_lit] at hx
  exact ⟨g, 0, rfl, hx⟩

section
variable {P : Program} {t e : TypeId} {z : Value} {size bytes : Nat}
theorem run_append_nothing (ty : TypeId) (T : ElemT P t e z size bytes) (w : World) (base : Nat) (v : Value) (n c : Nat) (xs : List Value) (hown : w.ownsRow base e size v n xs) (A : Option Addr) :
    (Builtin.append_ #[t, t] ty #[v, .slice A 0 c]).run P w = .ok v w := by
  obtain ⟨i, hi, hz, hs, hb⟩ := info_parts T.hi
  have ht := T.ht
  rcases hown.2 with ⟨rfl, rfl⟩ | ⟨g, cap, cur, rfl, _, _, hnc, _⟩
  · cases A <;> simp [Builtin.append_, run_underlying ht, sizeOf, typeInfo, hi, Builtin.lenOf, Builtin.firstCells, loadCells, loadCellsFrom]
  · cases A <;> simp [Builtin.append_, run_underlying ht, sizeOf, typeInfo, hi, Builtin.lenOf, Builtin.firstCells, hnc, storeCells, loadCells, loadCellsFrom]
/-- append to an owned row, whatever the source. -/
theorem run_append_row (ty : TypeId) (T : ElemT P t e z size bytes) (w : World) (base : Nat) (v : Value) (n : Nat) (xs : List Value) (hown : w.ownsRow base e size v n xs)
    (A : Option Addr) (m c : Nat) (news : List Value) (hl : news.length = m * size) (hnews : Cells w A news) (h1 : ∀ u ∈ news, u.oneCell' = true) (hbytes : (n + m) * bytes ≤ 140737488355328) (hbase : base ≤ w.heap.size) :
    ∃ v' w', (Builtin.append_ #[t, t] ty #[v, .slice A m c]).run P w = .ok v' w' ∧ w'.ownsRow base e size v' (n + m) (xs ++ news) ∧ w.grownBy w' v.ownBlock ∧ (v'.ownBlock = v.ownBlock ∨ v'.ownBlock = some w.heap.size) := by
  by_cases hm : m = 0
  · subst hm
    have hn : news = [] := List.eq_nil_of_length_eq_zero (by simpa using hl)
    subst hn
    exact ⟨v, w, run_append_nothing ty T w base v n c xs hown A, by simpa using hown, ⟨rfl, rfl, rfl, Nat.le_refl _, fun _ _ _ => rfl⟩, .inl rfl⟩
  · obtain ⟨i, hi, hz, hs, hb⟩ := info_parts T.hi
    have h63 : n + m ≤ maxLen := by
      have := Nat.le_mul_of_pos_right (n + m) T.hb
      unfold maxLen
      omega
    have hpos : 0 < news.length := by rw [hl]; exact Nat.mul_pos (Nat.pos_of_ne_zero hm) T.hs
    obtain ⟨a, rfl, _⟩ := hnews 0 _ (List.getElem?_eq_getElem hpos)
    obtain ⟨v', w', hr, h2, h3, _, h5⟩ := run_append_own_at (P := P) w base t ty e i z size bytes T.ht hi hz hs hb T.hz T.hs v n xs hown a m c news hl (fun j u hu => by obtain ⟨a', ha, hc⟩ := hnews j u hu; cases ha; exact hc) h1 h63 hbytes hbase
    exact ⟨v', w', hr, h2, h3, h5⟩

variable {ops : Array Oper} {rest : List Oper} {o : Oper} {a : Act} {Q : Exit → Act → World → Prop} {w : World}
theorem wp_append_row {K : Act → World → Prop} (s x : Operand) (T : ElemT P t e z size bytes) (ho : o.op = .call { callee := .builtin .append, args := #[s, x], argTypes := #[t, t] })
    (base : Nat) (v : Value) (n : Nat) (xs : List Value) (hs : a.eval s = v) (hown : w.ownsRow base e size v n xs)
    (A : Option Addr) (m c : Nat) (news : List Value) (hx : a.eval x = .slice A m c) (hl : news.length = m * size) (hnews : Cells w A news) (h1 : ∀ u ∈ news, u.oneCell' = true) (hbytes : (n + m) * bytes ≤ 140737488355328) (hbase : base ≤ w.heap.size)
    (h : ∀ v' w', w'.ownsRow base e size v' (n + m) (xs ++ news) → w.grownBy w' v.ownBlock → (v'.ownBlock = v.ownBlock ∨ v'.ownBlock = some w.heap.size) → K (a.put o.dst v') w') : o.wp P a w K Q := by
  obtain ⟨v', w', hr, h2, h3, h4⟩ := run_append_row (P := P) o.type T w base v n xs hown A m c news hl hnews h1 hbytes hbase
  unfold Oper.wp execOp
  simp only [ho, resolve, invoke, builtin, Sem.run_bind, Sem.run_pure, Result.andThen_ok, List.map_toArray, List.map_cons, List.map_nil, hs, hx, hr]
  exact h v' w' h2 h3 h4
theorem wpList_append_row (hgd : o.guard = none) (s x : Operand) (T : ElemT P t e z size bytes) (ho : o.op = .call { callee := .builtin .append, args := #[s, x], argTypes := #[t, t] })
    (base : Nat) (v : Value) (n : Nat) (xs : List Value) (hs : a.eval s = v) (hown : w.ownsRow base e size v n xs)
    (A : Option Addr) (m c : Nat) (news : List Value) (hx : a.eval x = .slice A m c) (hl : news.length = m * size) (hnews : Cells w A news) (h1 : ∀ u ∈ news, u.oneCell' = true) (hbytes : (n + m) * bytes ≤ 140737488355328) (hbase : base ≤ w.heap.size)
    (h : ∀ v' w', w'.ownsRow base e size v' (n + m) (xs ++ news) → w.grownBy w' v.ownBlock → (v'.ownBlock = v.ownBlock ∨ v'.ownBlock = some w.heap.size) → wpList P ops Q rest (a.put o.dst v') w') : wpList P ops Q (o :: rest) a w :=
  wpList_plain hgd fun _ hK => wp_append_row s x T ho base v n xs hs hown A m c news hx hl hnews h1 hbytes hbase fun v' w' h2 h3 h4 => hK _ _ (h v' w' h2 h3 h4)
theorem wpList_append_row_g (hw : Region.wanted o (yielded ops a.tmps) = true) (s x : Operand) (T : ElemT P t e z size bytes) (ho : o.op = .call { callee := .builtin .append, args := #[s, x], argTypes := #[t, t] })
    (base : Nat) (v : Value) (n : Nat) (xs : List Value) (hs : a.eval s = v) (hown : w.ownsRow base e size v n xs)
    (A : Option Addr) (m c : Nat) (news : List Value) (hx : a.eval x = .slice A m c) (hl : news.length = m * size) (hnews : Cells w A news) (h1 : ∀ u ∈ news, u.oneCell' = true) (hbytes : (n + m) * bytes ≤ 140737488355328) (hbase : base ≤ w.heap.size)
    (h : ∀ v' w', w'.ownsRow base e size v' (n + m) (xs ++ news) → w.grownBy w' v.ownBlock → (v'.ownBlock = v.ownBlock ∨ v'.ownBlock = some w.heap.size) → wpList P ops Q rest (a.put o.dst v') w') : wpList P ops Q (o :: rest) a w := by
  refine wpList_step fun K hK => ?_
  rw [if_pos hw]
  exact wp_append_row s x T ho base v n xs hs hown A m c news hx hl hnews h1 hbytes hbase fun v' w' h2 h3 h4 => hK _ _ (h v' w' h2 h3 h4)
theorem step_append_row {K : Act → World → Prop} {E : Prop} (hgd : o.guard = none) (s x : Operand) (T : ElemT P t e z size bytes) (ho : o.op = .call { callee := .builtin .append, args := #[s, x], argTypes := #[t, t] })
    (base : Nat) (v : Value) (n : Nat) (xs : List Value) (hs : a.eval s = v) (hown : w.ownsRow base e size v n xs)
    (A : Option Addr) (m c : Nat) (news : List Value) (hx : a.eval x = .slice A m c) (hl : news.length = m * size) (hnews : Cells w A news) (h1 : ∀ u ∈ news, u.oneCell' = true) (hbytes : (n + m) * bytes ≤ 140737488355328) (hbase : base ≤ w.heap.size)
    (h : ∀ v' w', w'.ownsRow base e size v' (n + m) (xs ++ news) → w.grownBy w' v.ownBlock → (v'.ownBlock = v.ownBlock ∨ v'.ownBlock = some w.heap.size) → K (a.put o.dst v') w') :
    if Region.wanted o (yielded ops a.tmps) = true then Oper.wp P o a w K Q else E := by
  have hw : Region.wanted o (yielded ops a.tmps) = true := by simp [Region.wanted, hgd]
  rw [if_pos hw]
  exact wp_append_row s x T ho base v n xs hs hown A m c news hx hl hnews h1 hbytes hbase h
end
theorem Upd.behind {g : Nat} {w w1 w2 : World} (h : Upd g w w1) (hb : Below w.heap.size w1 w2) : Upd g w w2 :=
  ⟨hb.os.trans h.os, hb.tape.trans h.tape, hb.output.trans h.output, Nat.le_trans h.size hb.size, fun k hk hn => (hb.block k hk).trans (h.block k hk hn)⟩
theorem below_upd {g B : Nat} {w w' : World} (hu : Upd g w w') (hg : B ≤ g) (hB : B ≤ w.heap.size) : Below B w w' := Upd.below (Below.refl _ _) hu hg hB
/-- Where a slice's slice lies. -/
def cutA (A : Option Addr) (lo cap size : Nat) : Option Addr := if cap = lo then A else A.map (·.add (lo * size))
theorem run_slice_row {P : Program} {t e : TypeId} {z : Value} {size bytes : Nat} (T : ElemT P t e z size bytes) (A : Option Addr) (len cap : Nat) (lo hi : Int) (k k' : IntKind) (h0 : 0 ≤ lo) (h1 : lo ≤ hi) (h2 : hi ≤ (cap : Int)) (w : World) :
    (Instr.slice t (.slice A len cap) (some (.int k lo)) (some (.int k' hi)) none).run P w = .ok (.slice (cutA A lo.toNat cap size) (hi.toNat - lo.toNat) (cap - lo.toNat)) w := by
  obtain ⟨i, hi', hz, hs, hb⟩ := info_parts T.hi
  have h3 : 0 ≤ hi := by omega
  have h4 : lo ≤ max hi 0 := by omega
  simp [Instr.slice, run_underlying T.ht, Instr.sliceBounds, Instr.sliceBound, asIntOf, h0, h2, h3, h4, sizeOf, typeInfo, hi', hs, cutA]
theorem run_slice_from {P : Program} {t e : TypeId} {z : Value} {size bytes : Nat} (T : ElemT P t e z size bytes) (A : Option Addr) (len cap : Nat) (lo : Int) (k : IntKind) (h0 : 0 ≤ lo) (h1 : lo ≤ (len : Int)) (w : World) :
    (Instr.slice t (.slice A len cap) (some (.int k lo)) none none).run P w = .ok (.slice (cutA A lo.toNat cap size) (len - lo.toNat) (cap - lo.toNat)) w := by
  obtain ⟨i, hi', hz, hs, hb⟩ := info_parts T.hi
  simp [Instr.slice, run_underlying T.ht, Instr.sliceBounds, Instr.sliceBound, asIntOf, h0, h1, sizeOf, typeInfo, hi', hs, cutA]
theorem run_slice_to {P : Program} {t e : TypeId} {z : Value} {size bytes : Nat} (T : ElemT P t e z size bytes) (A : Option Addr) (len cap : Nat) (hi : Int) (k : IntKind) (h0 : 0 ≤ hi) (h1 : hi ≤ (cap : Int)) (w : World) :
    (Instr.slice t (.slice A len cap) none (some (.int k hi)) none).run P w = .ok (.slice (cutA A 0 cap size) hi.toNat cap) w := by
  obtain ⟨i, hi', hz, hs, hb⟩ := info_parts T.hi
  simp [Instr.slice, run_underlying T.ht, Instr.sliceBounds, Instr.sliceBound, asIntOf, h0, h1, sizeOf, typeInfo, hi', hs, cutA]
theorem cutA_zero (A : Option Addr) (cap size : Nat) : cutA A 0 cap size = A := by
  unfold cutA
  split
  · rfl
  · cases A with
    | none => rfl
    | some a => simp [Addr.add]
theorem cutA_block {A : Option Addr} {lo cap size : Nat} {a : Addr} (h : cutA A lo cap size = some a) : ∃ a', A = some a' ∧ a.block = a'.block := by
  unfold cutA at h
  split at h
  · exact ⟨a, h, rfl⟩
  · cases A with
    | none => cases h
    | some a' =>
      simp only [Option.map_some, Option.some.injEq] at h
      subst h
      exact ⟨a', rfl, by unfold Addr.add; split <;> rfl⟩
theorem rd_cut {w : World} {k : IntKind} {n : Nat} {A : Option Addr} {b : List (BitVec n)} (h : Rd w k A b) (s L cap : Nat) (hc : b.length ≤ cap) : Rd w k (cutA A s cap 1) ((b.drop s).take L) := fun i hi => by
  rw [List.length_take, List.length_drop] at hi
  obtain ⟨g, off, rfl, hc'⟩ := h (s + i) (by omega)
  refine ⟨g, off + s, ?_, ?_⟩
  · unfold cutA
    rw [if_neg (by omega), Option.map_some, Nat.mul_one, add_lit]
  · rw [Nat.add_assoc, hc']
    simp [List.getD, show i < L by omega]
/-- Cells laid over others from a place on. -/
def over (cur : Array Value) (off : Nat) (cs : List Value) : Array Value := (cur.toList.take off ++ cs ++ cur.toList.drop (off + cs.length)).toArray
def overL {α : Type} (l : List α) (off : Nat) (m : List α) : List α := l.take off ++ m ++ l.drop (off + m.length)
theorem over_encs (k : IntKind) {n : Nat} (l m : List (BitVec n)) (off : Nat) : over (encs k l) off (encL k m) = encs k (overL l off m) := by
  unfold over overL
  rw [encs_toList, encL_length]
  simp [encs, encL]
theorem overL_all {α : Type} (l m : List α) (h : l.length = m.length) : overL l 0 m = m := by simp [overL, h, List.drop_of_length_le]
theorem overL_nil {α : Type} (l : List α) (off : Nat) : overL l off [] = l := by simp [overL]
theorem overL_length {α : Type} (l m : List α) (off : Nat) (h : off + m.length ≤ l.length) : (overL l off m).length = l.length := by simp [overL]; omega
/-- copy into a block, whatever the source. -/
theorem run_copy_blk {P : Program} (dT sT ty elem : TypeId) (hu : P.underlying dT = some (.slice elem)) (hs : (P.info? elem).map (·.size) = some 1) (w : World) (g off dLen dCap : Nat) (cur : Array Value) (t : TypeId) (hB : Blk w g cur t)
    (A : Option Addr) (c : Nat) (xs : List Value) (hx : Cells w A xs) (h1 : ∀ v ∈ xs, v.oneCell' = true) (hfit : off + dLen ≤ cur.size) :
    ∃ w', (Builtin.copy_ #[dT, sT] ty #[.slice (some ⟨g, off, none⟩) dLen dCap, .slice A xs.length c]).run P w = .ok (goInt (min xs.length dLen : Nat)) w' ∧ Blk w' g (over cur off (xs.take dLen)) t ∧ Upd g w w' := by
  by_cases h0 : min xs.length dLen = 0
  · refine ⟨w, ?_, ?_, Upd.refl _ _⟩
    · rw [h0]
      exact run_copy_none (P := P) w dT sT ty elem _ A dLen dCap xs.length c hu hs h0
    · have : xs.take dLen = [] := List.eq_nil_of_length_eq_zero (by rw [List.length_take]; omega)
      rw [this]
      simpa [over] using hB
  · obtain ⟨a, rfl, _⟩ := hx 0 _ (List.getElem?_eq_getElem (by omega))
    have hl : (xs.take dLen).length = Nat.min xs.length dLen := by rw [List.length_take, Nat.min_comm]
    have hr := run_copy_row (P := P) w dT sT ty elem g off dLen dCap a xs.length c cur t (xs.take dLen) hu hs hB hl (fun j v hv => by
      rw [List.getElem?_take] at hv
      split at hv
      · obtain ⟨a', ha, hc⟩ := hx j v hv
        cases ha
        exact hc
      · cases hv) (by rw [hl]; have := Nat.min_le_right xs.length dLen; show off + min xs.length dLen ≤ _; omega) (fun v hv => h1 v (List.mem_of_mem_take hv))
    rw [hl] at hr
    refine ⟨_, hr, ?_, (Upd.refl _ _).setRow _⟩
    have h2 := hB.row (cur.toList.take off ++ xs.take dLen ++ cur.toList.drop (off + Nat.min xs.length dLen)).toArray
    unfold over
    rw [hl]
    exact h2
theorem wp_copy_blk {P : Program} {o : Oper} {a : Act} {Q : Exit → Act → World → Prop} {w : World} {K : Act → World → Prop} (d s : Operand) (dT sT elem : TypeId) (ho : o.op = .call { callee := .builtin .copy, args := #[d, s], argTypes := #[dT, sT] })
    (hu : P.underlying dT = some (.slice elem)) (hs : (P.info? elem).map (·.size) = some 1) (g off dLen dCap : Nat) (hd : a.eval d = .slice (some ⟨g, off, none⟩) dLen dCap) (cur : Array Value) (t : TypeId) (hB : Blk w g cur t)
    (A : Option Addr) (m c : Nat) (xs : List Value) (hm : xs.length = m) (hsv : a.eval s = .slice A m c) (hx : Cells w A xs) (h1 : ∀ v ∈ xs, v.oneCell' = true) (hfit : off + dLen ≤ cur.size)
    (h : ∀ w', Blk w' g (over cur off (xs.take dLen)) t → Upd g w w' → K (a.put o.dst (goInt (min m dLen : Nat))) w') : o.wp P a w K Q := by
  subst hm
  obtain ⟨w', hr, h2, h3⟩ := run_copy_blk (P := P) dT sT o.type elem hu hs w g off dLen dCap cur t hB A c xs hx h1 hfit
  unfold Oper.wp execOp
  simp only [ho, resolve, invoke, builtin, Sem.run_bind, Sem.run_pure, Result.andThen_ok, List.map_toArray, List.map_cons, List.map_nil, hd, hsv, hr]
  exact h w' h2 h3
theorem step_copy_blk {P : Program} {ops : Array Oper} {o : Oper} {a : Act} {Q : Exit → Act → World → Prop} {w : World} {K : Act → World → Prop} {E : Prop} (hgd : o.guard = none) (d s : Operand) (dT sT elem : TypeId) (ho : o.op = .call { callee := .builtin .copy, args := #[d, s], argTypes := #[dT, sT] })
    (hu : P.underlying dT = some (.slice elem)) (hs : (P.info? elem).map (·.size) = some 1) (g off dLen dCap : Nat) (hd : a.eval d = .slice (some ⟨g, off, none⟩) dLen dCap) (cur : Array Value) (t : TypeId) (hB : Blk w g cur t)
    (A : Option Addr) (m c : Nat) (xs : List Value) (hm : xs.length = m) (hsv : a.eval s = .slice A m c) (hx : Cells w A xs) (h1 : ∀ v ∈ xs, v.oneCell' = true) (hfit : off + dLen ≤ cur.size)
    (h : ∀ w', Blk w' g (over cur off (xs.take dLen)) t → Upd g w w' → K (a.put o.dst (goInt (min m dLen : Nat))) w') : if Region.wanted o (yielded ops a.tmps) = true then Oper.wp P o a w K Q else E := by
  have hw : Region.wanted o (yielded ops a.tmps) = true := by simp [Region.wanted, hgd]
  rw [if_pos hw]
  exact wp_copy_blk d s dT sT elem ho hu hs g off dLen dCap hd cur t hB A m c xs hm hsv hx h1 hfit h
theorem wpList_copy_blk {P : Program} {ops : Array Oper} {rest : List Oper} {o : Oper} {a : Act} {Q : Exit → Act → World → Prop} {w : World} (hgd : o.guard = none) (d s : Operand) (dT sT elem : TypeId) (ho : o.op = .call { callee := .builtin .copy, args := #[d, s], argTypes := #[dT, sT] })
    (hu : P.underlying dT = some (.slice elem)) (hs : (P.info? elem).map (·.size) = some 1) (g off dLen dCap : Nat) (hd : a.eval d = .slice (some ⟨g, off, none⟩) dLen dCap) (cur : Array Value) (t : TypeId) (hB : Blk w g cur t)
    (A : Option Addr) (m c : Nat) (xs : List Value) (hm : xs.length = m) (hsv : a.eval s = .slice A m c) (hx : Cells w A xs) (h1 : ∀ v ∈ xs, v.oneCell' = true) (hfit : off + dLen ≤ cur.size)
    (h : ∀ w', Blk w' g (over cur off (xs.take dLen)) t → Upd g w w' → wpList P ops Q rest (a.put o.dst (goInt (min m dLen : Nat))) w') : wpList P ops Q (o :: rest) a w :=
  wpList_plain hgd fun _ hK => wp_copy_blk d s dT sT elem ho hu hs g off dLen dCap hd cur t hB A m c xs hm hsv hx h1 hfit fun w' h2 h3 => hK _ _ (h w' h2 h3)
/-- A new row of words of the call's own is handed back. -/
def RetOwn (w : World) (e : TypeId) (k : IntKind) {n : Nat} (l : List (BitVec n)) (en : Ending) (w' : World) : Prop :=
  ∃ v, en = .returned v ∧ w'.ownsRow w.heap.size e 1 v l.length (encL k l) ∧ Below w.heap.size w w'
end Go.Proofs.Ytjghhbollgggoaa
