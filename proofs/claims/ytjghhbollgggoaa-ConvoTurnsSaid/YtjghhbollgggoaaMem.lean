/- Blocks of words: a row of cells that holds a list of words; what a store leaves of it; worlds that differ in one block alone. -/
import Derived.Test.YtjghhbollgggoaaBits
import Derived.Carry
namespace Go.Proofs.Ytjghhbollgggoaa
open Go.RowKit

/-- The cells of a list of words. -/
def encs (k : IntKind) {n : Nat} (l : List (BitVec n)) : Array Value := (l.map fun x => Value.int k (wb x)).toArray
theorem encs_size (k : IntKind) {n : Nat} (l : List (BitVec n)) : (encs k l).size = l.length := by simp [encs]
theorem encs_get (k : IntKind) {n : Nat} (l : List (BitVec n)) (i : Nat) (h : i < l.length) : (encs k l)[i]? = some (.int k (wb (l.getD i 0))) := by
  simp [encs, h]
theorem encs_set (k : IntKind) {n : Nat} (l : List (BitVec n)) (i : Nat) (x : BitVec n) : (encs k l).setIfInBounds i (.int k (wb x)) = encs k (l.set i x) := by
  simp [encs, List.map_set]
theorem encs_append (k : IntKind) {n : Nat} (l m : List (BitVec n)) : encs k (l ++ m) = encs k l ++ encs k m := by simp [encs]
theorem encs_inj {k : IntKind} {n : Nat} {l m : List (BitVec n)} (h : encs k l = encs k m) : l = m := by
  unfold encs at h
  have h1 : (l.map fun x => Value.int k (wb x)) = (m.map fun x => Value.int k (wb x)) := by simpa using congrArg Array.toList h
  clear h
  induction l generalizing m with
  | nil => cases m with
    | nil => rfl
    | cons y m => simp at h1
  | cons x l ih => cases m with
    | nil => simp at h1
    | cons y m =>
      simp only [List.map_cons, List.cons.injEq, Value.int.injEq, true_and] at h1
      rw [wb_inj.1 h1.1, ih h1.2]

/-- Block g holds the cells cs. -/
def Blk (w : World) (g : Nat) (cs : Array Value) (ty : TypeId) : Prop := w.heap[g]? = some (.cells cs ty (0, 0))
theorem Blk.lt {w : World} {g : Nat} {cs : Array Value} {ty : TypeId} (h : Blk w g cs ty) : g < w.heap.size := (Array.getElem?_eq_some_iff.1 h).1
theorem Blk.cell {w : World} {g : Nat} {cs : Array Value} {ty : TypeId} (h : Blk w g cs ty) (i : Nat) : w.cell? ⟨g, i, none⟩ = cs[i]? := cell_of_row w g i cs ty (0, 0) h
theorem Blk.frozen {w : World} {g : Nat} {cs : Array Value} {ty : TypeId} (h : Blk w g cs ty) (i : Nat) : w.frozen? ⟨g, i, none⟩ = false := by
  unfold Blk at h
  simp [World.frozen?, h]
theorem Blk.set {w : World} {g : Nat} {cs : Array Value} {ty : TypeId} (h : Blk w g cs ty) (i : Nat) (v : Value) : Blk (w.setCell ⟨g, i, none⟩ v) g (cs.setIfInBounds i v) ty := heap_setCell_same w g i cs ty v h
theorem Blk.far {w : World} {g : Nat} {cs : Array Value} {ty : TypeId} (h : Blk w g cs ty) {p : Addr} (hp : g ≠ p.block) (v : Value) : Blk (w.setCell p v) g cs ty := (heap_setCell_other w p g v hp).trans h
theorem Blk.below {w w' : World} {B g : Nat} {cs : Array Value} {ty : TypeId} (h : Blk w g cs ty) (hb : Below B w w') (hg : g < B) : Blk w' g cs ty := (hb.block g hg).trans h
theorem Blk.new (w : World) (cs : Array Value) (ty : TypeId) : Blk (w.alloc (.cells cs ty)) w.heap.size cs ty := heap_alloc_new w _
theorem Blk.new_at (w : World) (cs : Array Value) (ty : TypeId) (g : Nat) (hg : g = w.heap.size) : Blk (w.alloc (.cells cs ty)) g cs ty := by subst hg; exact Blk.new w cs ty
theorem Blk.alloc {w : World} {g : Nat} {cs : Array Value} {ty : TypeId} (h : Blk w g cs ty) (o : Obj) : Blk (w.alloc o) g cs ty := (Below.heap_alloc w o g h.lt).trans h
theorem Blk.drew {w : World} {g : Nat} {cs : Array Value} {ty : TypeId} (h : Blk w g cs ty) : Blk w.drew g cs ty := h

/-- A cell of a block of words. -/
theorem Blk.word {w : World} {g : Nat} {k : IntKind} {n : Nat} {l : List (BitVec n)} {ty : TypeId} (h : Blk w g (encs k l) ty) (i : Nat) (hi : i < l.length) : w.cell? ⟨g, i, none⟩ = some (.int k (wb (l.getD i 0))) := by
  rw [h.cell, encs_get k l i hi]
theorem Blk.put {w : World} {g : Nat} {k : IntKind} {n : Nat} {l : List (BitVec n)} {ty : TypeId} (h : Blk w g (encs k l) ty) (i : Nat) (x : BitVec n) : Blk (w.setCell ⟨g, i, none⟩ (.int k (wb x))) g (encs k (l.set i x)) ty := by
  have := h.set i (.int k (wb x))
  rwa [encs_set] at this

/-- What was there stays, but for block g. -/
structure Upd (g : Nat) (w w' : World) : Prop where
  os : w'.os = w.os
  tape : w'.tape = w.tape
  output : w'.output = w.output
  size : w.heap.size ≤ w'.heap.size
  block : ∀ k, k < w.heap.size → k ≠ g → w'.heap[k]? = w.heap[k]?
theorem Upd.refl (g : Nat) (w : World) : Upd g w w := ⟨rfl, rfl, rfl, Nat.le_refl _, fun _ _ _ => rfl⟩
theorem Upd.trans {g : Nat} {a b c : World} (h : Upd g a b) (k : Upd g b c) : Upd g a c :=
  ⟨k.os.trans h.os, k.tape.trans h.tape, k.output.trans h.output, Nat.le_trans h.size k.size, fun i hi hn => (k.block i (Nat.lt_of_lt_of_le hi h.size) hn).trans (h.block i hi hn)⟩
theorem Upd.drew {g : Nat} {a b : World} (h : Upd g a b) : Upd g a b.drew := ⟨h.os, h.tape, h.output, h.size, h.block⟩
theorem Upd.setCell {g : Nat} {a b : World} (h : Upd g a b) (i : Nat) (v : Value) : Upd g a (b.setCell ⟨g, i, none⟩ v) :=
  h.trans ⟨rfl, rfl, rfl, by simp [World.setCell], fun k _ hn => Below.heap_setCell _ _ _ _ hn⟩
theorem Upd.of_below {g : Nat} {a b : World} (h : Below a.heap.size a b) : Upd g a b := ⟨h.os, h.tape, h.output, h.size, fun k hk _ => h.block k hk⟩
theorem Upd.below {g B : Nat} {a w w' : World} (h : Below B a w) (hu : Upd g w w') (hg : B ≤ g) (hB : B ≤ w.heap.size) : Below B a w' :=
  h.trans ⟨hu.os, hu.tape, hu.output, hu.size, fun k hk => hu.block k (by omega) (by omega)⟩
theorem Blk.upd {w w' : World} {g g' : Nat} {cs : Array Value} {ty : TypeId} (h : Blk w g cs ty) (hu : Upd g' w w') (hne : g ≠ g') : Blk w' g cs ty := (hu.block g h.lt hne).trans h

theorem Blk.farAt {w : World} {g g' : Nat} {cs : Array Value} {ty : TypeId} (h : Blk w g cs ty) (hne : g ≠ g') (i : Nat) (v : Value) : Blk (w.setCell ⟨g', i, none⟩ v) g cs ty := h.far (by simpa using hne) v
theorem Blk.row {w : World} {g : Nat} {cs : Array Value} {ty : TypeId} (h : Blk w g cs ty) (cs' : Array Value) : Blk (w.setRow g cs') g cs' ty := setRow_heap w g cs cs' ty (0, 0) h
theorem Blk.farRow {w : World} {g g' : Nat} {cs : Array Value} {ty : TypeId} (h : Blk w g cs ty) (hne : g ≠ g') (cs' : Array Value) : Blk (w.setRow g' cs') g cs ty := (setRow_other w g' g cs' hne).trans h
theorem Upd.setRow {g : Nat} {a b : World} (h : Upd g a b) (cs : Array Value) : Upd g a (b.setRow g cs) :=
  h.trans ⟨rfl, rfl, rfl, by simp, fun k _ hn => setRow_other _ _ _ _ hn⟩
theorem below_setRow {B : Nat} {a w : World} (h : Below B a w) {g : Nat} (hg : B ≤ g) (cs : Array Value) : Below B a (w.setRow g cs) :=
  h.trans ⟨rfl, rfl, rfl, by simp, fun k hk => setRow_other _ _ _ _ (by omega)⟩
theorem below_setCell {B : Nat} {a w : World} (h : Below B a w) {g : Nat} (hg : B ≤ g) (i : Nat) (v : Value) : Below B a (w.setCell ⟨g, i, none⟩ v) := h.setCell hg v
theorem encs_one (k : IntKind) {n : Nat} (l : List (BitVec n)) : (encs k l).all (·.oneCell') = true := by
  rw [Array.all_eq_true_iff_forall_mem]
  intro v hv
  simp only [encs, List.mem_toArray, List.mem_map] at hv
  obtain ⟨x, _, rfl⟩ := hv
  rfl

section
variable {P : Program} {ops : Array Oper} {rest : List Oper} {o : Oper} {a : Act} {w : World} {Q : Exit → Act → World → Prop}
theorem setRow_last (w : World) (c c' : Array Value) (t : TypeId) : (w.alloc (.cells c t)).setRow w.heap.size c' = w.alloc (.cells c' t) := by
  unfold World.setRow World.alloc
  congr 1
  apply Array.ext
  · simp
  · intro k h1 h2
    simp only [Array.getElem_modify, Array.getElem_push]
    by_cases hk : k < w.heap.size
    · simp [hk, show ¬ w.heap.size = k by omega]
    · have hk2 : w.heap.size = k := by simp at h2; omega
      simp [hk2]
/-- A whole value stored into the block that was made last. -/
theorem wpList_store_last (hgd : o.guard = none) (ty : TypeId) (x y : Operand) (ho : o.op = .store ty x y) (g : Nat) (old cells : Array Value) (t : TypeId)
    (hx : a.eval x = .pointer (some ⟨g, 0, none⟩)) (hy : a.eval y = .agg cells) (hg : g = w.heap.size) (hi : (P.info? ty).map (·.size) = some cells.size) (hold : old.size = cells.size) (h1 : cells.all (·.oneCell') = true)
    (h : wpList P ops Q rest (a.put o.dst undef) (w.alloc (.cells cells t))) : wpList P ops Q (o :: rest) a (w.alloc (.cells old t)) := by
  subst hg
  refine wpList_store_row hgd ty x y ho w.heap.size cells hx hy t old (Blk.new w old t) hi hold h1 ?_
  rw [setRow_last]
  exact h
/-- A whole value loaded from the block that was made last. -/
theorem wpList_load_last (hgd : o.guard = none) (ty : TypeId) (x : Operand) (ho : o.op = .load ty x) (g : Nat) (cs : Array Value) (t : TypeId) (fr : Nat × Nat) (d : TypeDesc)
    (hx : a.eval x = .pointer (some ⟨g, 0, none⟩)) (hg : g = w.heap.size) (hu : P.underlying ty = some d) (hd : (match d with | .struct _ | .array _ _ => true | _ => false) = true) (hi : (P.info? ty).map (·.size) = some cs.size)
    (h : wpList P ops Q rest (a.put o.dst (.agg cs)) (w.alloc (.cells cs t fr))) : wpList P ops Q (o :: rest) a (w.alloc (.cells cs t fr)) := by
  subst hg
  exact wpList_load_row hgd ty x ho w.heap.size hx t cs fr d (heap_alloc_new w _) hu hd hi h
end

/-- An element of an array of words that goes by value. -/
theorem run_index_encs {P : Program} (t e : TypeId) (k ke : IntKind) {n m : Nat} (ht : P.underlying t = some (.array m e)) (he : P.underlying e = some (.int ke)) (hs : (P.info? e).map (·.size) = some 1) (l : List (BitVec n)) (kind : IntKind) (i : Int) (h0 : 0 ≤ i) (hi : i.toNat < l.length) (hm : l.length = m) (w : World) :
    (Instr.index t (.agg (encs kind l)) (.int k i)).run P w = .ok (.int kind (wb (l.getD i.toNat 0))) w := by
  have hlt : i < (m : Int) := by omega
  have hagg : (isAgg e).run P w = .ok false w := by
    unfold isAgg
    rw [Sem.run_bind, run_underlying he w]
    rfl
  cases hq : P.info? e with
  | none => simp [hq] at hs
  | some inf =>
    have hsz : inf.size = 1 := by simpa [hq] using hs
    have hg := encs_get kind l i.toNat hi
    simp [Instr.index, asIntOf, run_underlying ht, h0, hlt, sizeOf, typeInfo, hq, hsz, part, hagg, hg]

/-- A cell of an elder world. -/
theorem below_cell {w w' : World} (h : Below w.heap.size w w') {p : Addr} {v : Value} (hc : w.cell? p = some v) : w'.cell? p = some v := (h.cell (World.block_lt_of_cell? w p hc)).trans hc

/-- A slice that reads as a list of words (its address is asked for only where there is an element). -/
def Rd (w : World) (k : IntKind) {n : Nat} (A : Option Addr) (l : List (BitVec n)) : Prop :=
  ∀ i, i < l.length → ∃ g off, A = some ⟨g, off, none⟩ ∧ w.cell? ⟨g, off + i, none⟩ = some (.int k (wb (l.getD i 0)))
theorem Rd.below {w w' : World} {k : IntKind} {n : Nat} {A : Option Addr} {l : List (BitVec n)} (h : Rd w k A l) (hb : Below w.heap.size w w') : Rd w' k A l := fun i hi =>
  let ⟨g, off, hA, hc⟩ := h i hi
  ⟨g, off, hA, below_cell hb hc⟩
theorem Blk.rd {w : World} {g : Nat} {k : IntKind} {n : Nat} {l : List (BitVec n)} {ty : TypeId} (h : Blk w g (encs k l) ty) : Rd w k (some ⟨g, 0, none⟩) l := fun i hi =>
  ⟨g, 0, rfl, by rw [Nat.zero_add]; exact h.word i hi⟩
theorem Rd.nil {w : World} {k : IntKind} {n : Nat} {A : Option Addr} : Rd w k A ([] : List (BitVec n)) := fun i hi => absurd hi (by simp)

/-- A new row of words is handed back. -/
def RetRow (w : World) (ty : TypeId) (k : IntKind) {n : Nat} (l : List (BitVec n)) (e : Ending) (w' : World) : Prop :=
  ∃ g, e = .returned (.slice (some ⟨g, 0, none⟩) l.length l.length) ∧ Blk w' g (encs k l) ty ∧ w.heap.size ≤ g ∧ Below w.heap.size w w'

theorem madeCells_words (k : IntKind) {n : Nat} (m : Nat) : madeCells #[Value.int k 0] m = encs k (List.replicate m (0 : BitVec n)) := by
  unfold madeCells encs
  apply Array.ext
  · simp
  · intro i h1 h2
    simp [wb, Nat.mod_one]
/-- make([]T, m) of words. -/
theorem run_make_words {P : Program} (t e : TypeId) (k : IntKind) (n bytes : Nat) (ht : P.underlying t = some (.slice e)) (hi : (P.info? e).map (fun i => (i.zero, i.size, i.bytes)) = some (some (.int k 0), 1, bytes)) (m : Nat) (hm : bytes * m ≤ 281474976710656) (hm2 : m ≤ 9223372036854775807) (wx : World) :
    (Instr.makeSlice t (.int .i64 (m : Int)) (.int .i64 (m : Int))).run P wx = .ok (.slice (some ⟨wx.heap.size, 0, none⟩) m m) (wx.alloc (.cells (encs k (List.replicate m (0 : BitVec n))) e)) := by
  obtain ⟨i, hi, hz, hs, hb⟩ := info_parts hi
  have := run_make (P := P) wx t e i (.int k 0) ht hi hz .i64 .i64 (m : Int) (m : Int) (by omega) (by omega) (by rw [hb, ← Int.natCast_mul]; omega) (by omega)
  rw [Int.toNat_natCast, hs, Nat.mul_one] at this
  rw [this]
  simp only [Value.cells, madeCells_words k (n := n)]
end Go.Proofs.Ytjghhbollgggoaa
