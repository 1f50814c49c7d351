/- append of bytes to owned bytes, as one step at opaque values. -/
import Derived.Test.YtjnbgoiaocpcjaaOctV
import Derived.Laws.OwnMore
namespace Go.Proofs.Ytjnbgoiaocpcjaa
open Go.RowKit
theorem arg_of' {w : World} {A : Option Addr} {cap n : Nat} {l : List (BitVec 8)} (hR : Rd w .u8 A l) (hn : l.length = n) (hc : n ≤ cap) : Arg w (.slice A n cap) l := ⟨A, cap, by rw [hn], by omega, hR⟩
theorem OwnB.base {w : World} {base base' : Nat} {v : Value} {l : List (BitVec 8)} (h : OwnB w base v l) (hb : base' ≤ base) : OwnB w base' v l := owns_base h hb
theorem OwnB.lit {w : World} {base : Nat} (l : List (BitVec 8)) (hb : base ≤ w.heap.size) (hm : l.length ≤ 140737488355328) : OwnB (w.alloc (.cells (encL .u8 l).toArray 5)) base (.slice (some ⟨w.heap.size, 0, none⟩) l.length l.length) l := by
  have h := World.ownsRow_lit (base := base) (e := 5) (size := 1) w (encL .u8 l).toArray l.length hb (by unfold maxLen; omega) (by rw [List.size_toArray, encL_length, Nat.mul_one])
  exact h
theorem OwnB.empty {w : World} {base : Nat} (hb : base ≤ w.heap.size) : OwnB (w.alloc (.cells #[] 5)) base (.slice (some ⟨w.heap.size, 0, none⟩) 0 0) [] := OwnB.lit [] hb (by simp)
section
variable {P : Program} {ops : Array Oper} {rest : List Oper} {o : Oper} {a : Act} {Q : Exit → Act → World → Prop} {w : World}
theorem step_app {K : Act → World → Prop} {E : Prop} (hgd : o.guard = none) (s x : Operand) (ho : o.op = .call { callee := .builtin .append, args := #[s, x], argTypes := #[38, 38] })
    (base : Nat) (v : Value) (l : List (BitVec 8)) (hs : a.eval s = v) (hown : OwnB w base v l) (u : Value) (m : List (BitVec 8)) (hx : a.eval x = u) (ha : Arg w u m)
    (hbytes : l.length + m.length ≤ 140737488355328) (hbase : base ≤ w.heap.size)
    (h : ∀ v' w', OwnB w' base v' (l ++ m) → Below base w w' → K (a.put o.dst v') w') :
    if Region.wanted o (yielded ops a.tmps) = true then Oper.wp Try.prog o a w K Q else E := by
  obtain ⟨A, c, rfl, hc, hr⟩ := ha
  refine step_append_row hgd s x bytesT ho base v _ _ hs hown A m.length c (encL .u8 m) hx (by rw [encL_length, Nat.mul_one]) hr.cells (encL_one _ _) (by omega) hbase ?_
  intro v' w' h2 hgr _
  refine h v' w' ?_ (below_grown (Below.refl _ _) hbase hgr (fun q hq => (hown.lt q hq).1))
  unfold OwnB
  rw [List.length_append, encL_append]
  exact h2
theorem wpList_app (hgd : o.guard = none) (s x : Operand) (ho : o.op = .call { callee := .builtin .append, args := #[s, x], argTypes := #[38, 38] })
    (base : Nat) (v : Value) (l : List (BitVec 8)) (hs : a.eval s = v) (hown : OwnB w base v l) (u : Value) (m : List (BitVec 8)) (hx : a.eval x = u) (ha : Arg w u m)
    (hbytes : l.length + m.length ≤ 140737488355328) (hbase : base ≤ w.heap.size)
    (h : ∀ v' w', OwnB w' base v' (l ++ m) → Below base w w' → wpList Try.prog ops Q rest (a.put o.dst v') w') : wpList Try.prog ops Q (o :: rest) a w := by
  obtain ⟨A, c, rfl, hc, hr⟩ := ha
  refine wpList_append_row hgd s x bytesT ho base v _ _ hs hown A m.length c (encL .u8 m) hx (by rw [encL_length, Nat.mul_one]) hr.cells (encL_one _ _) (by omega) hbase ?_
  intro v' w' h2 hgr _
  refine h v' w' ?_ (below_grown (Below.refl _ _) hbase hgr (fun q hq => (hown.lt q hq).1))
  unfold OwnB
  rw [List.length_append, encL_append]
  exact h2
theorem step_store_row {K : Act → World → Prop} {E : Prop} {P : Program} {ops : Array Oper} {o : Oper} {a : Act} {Q : Exit → Act → World → Prop} {w : World} (hgd : o.guard = none) (ty : TypeId) (x y : Operand) (ho : o.op = .store ty x y)
    (g : Nat) (cells : Array Value) (hx : a.eval x = .pointer (some ⟨g, 0, none⟩)) (hy : a.eval y = .agg cells)
    (t : TypeId) (old : Array Value) (hg : w.heap[g]? = some (.cells old t (0, 0))) (hi : (P.info? ty).map (·.size) = some cells.size)
    (hold : old.size = cells.size) (h1 : cells.all (·.oneCell') = true)
    (h : K (a.put o.dst undef) (w.setRow g cells)) : if Region.wanted o (yielded ops a.tmps) = true then Oper.wp P o a w K Q else E := by
  have hw : Region.wanted o (yielded ops a.tmps) = true := by simp [Region.wanted, hgd]
  rw [if_pos hw]
  exact wp_store_row ty x y ho g cells hx hy t old hg hi hold h1 h
end
end Go.Proofs.Ytjnbgoiaocpcjaa
