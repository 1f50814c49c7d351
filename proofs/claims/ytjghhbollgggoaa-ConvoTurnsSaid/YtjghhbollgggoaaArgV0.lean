/- Values that read as bytes, and own them; append to them (where there is no octet). -/
import Derived.Test.YtjghhbollgggoaaClone
import Derived.Test.YtjghhbollgggoaaArrEq
import Derived.Laws.OwnMore
namespace Go.Proofs.Ytjghhbollgggoaa
open Go.RowKit
/-- A value that reads as bytes. -/
def Arg (w : World) (v : Value) (l : List (BitVec 8)) : Prop := ∃ A cap, v = .slice A l.length cap ∧ l.length ≤ cap ∧ Rd w .u8 A l
theorem Arg.below {w w' : World} {v : Value} {l : List (BitVec 8)} (h : Arg w v l) (hb : Below w.heap.size w w') : Arg w' v l :=
  let ⟨A, cap, h1, h2, h3⟩ := h
  ⟨A, cap, h1, h2, h3.below hb⟩
theorem Arg.nil (w : World) : Arg w (.slice none 0 0) [] := ⟨none, 0, rfl, Nat.le_refl _, Rd.nil⟩
theorem Arg.drewN {w : World} {v : Value} {l : List (BitVec 8)} (h : Arg w v l) (n : Nat) : Arg (w.drewN n) v l := h
/-- A value that owns its bytes. -/
def OwnB (w : World) (base : Nat) (v : Value) (l : List (BitVec 8)) : Prop := w.ownsRow base 5 1 v l.length (encL .u8 l)
theorem OwnB.arg {w : World} {base : Nat} {v : Value} {l : List (BitVec 8)} (h : OwnB w base v l) : Arg w v l := by
  obtain ⟨A, cap, h1, h2, h3⟩ := ownsRow_rd h
  exact ⟨A, cap, h1, h2, h3⟩
theorem OwnB.below {w w' : World} {base : Nat} {v : Value} {l : List (BitVec 8)} (h : OwnB w base v l) (hb : Below w.heap.size w w') : OwnB w' base v l := owns_below h hb
theorem arg_mk {w : World} {A : Option Addr} {cap : Nat} {l : List (BitVec 8)} (hR : Rd w .u8 A l) (hc : l.length ≤ cap) : Arg w (.slice A l.length cap) l := ⟨A, cap, rfl, hc, hR⟩
theorem OwnB.drew {w : World} {base : Nat} {v : Value} {l : List (BitVec 8)} (h : OwnB w base v l) : OwnB w.drew base v l := h
theorem Arg.drew {w : World} {v : Value} {l : List (BitVec 8)} (h : Arg w v l) : Arg w.drew v l := h
theorem RetOwn.out {w w' : World} {l : List (BitVec 8)} {e : Ending} (h : RetOwn w 5 .u8 l e w') : ∃ v, e = .returned v ∧ OwnB w' w.heap.size v l ∧ Below w.heap.size w w' := h
theorem arg_of {w : World} {A : Option Addr} {cap n : Nat} {l : List (BitVec 8)} (hR : Rd w .u8 A l) (hn : l.length = n) (hc : n ≤ cap) : Arg w (.slice A n cap) l := ⟨A, cap, by rw [hn], by omega, hR⟩
theorem arg_of' {w : World} {A : Option Addr} {cap n : Nat} {l : List (BitVec 8)} (hR : Rd w .u8 A l) (hn : l.length = n) (hc : n ≤ cap) : Arg w (.slice A n cap) l := ⟨A, cap, by rw [hn], by omega, hR⟩
theorem OwnB.base {w : World} {base base' : Nat} {v : Value} {l : List (BitVec 8)} (h : OwnB w base v l) (hb : base' ≤ base) : OwnB w base' v l := owns_base h hb
theorem OwnB.lit {w : World} {base : Nat} (l : List (BitVec 8)) (hb : base ≤ w.heap.size) (hm : l.length ≤ 140737488355328) : OwnB (w.alloc (.cells (encL .u8 l).toArray 5)) base (.slice (some ⟨w.heap.size, 0, none⟩) l.length l.length) l := by
  have h := World.ownsRow_lit (base := base) (e := 5) (size := 1) w (encL .u8 l).toArray l.length hb (by unfold maxLen; omega) (by rw [List.size_toArray, encL_length, Nat.mul_one])
  exact h
theorem OwnB.empty {w : World} {base : Nat} (hb : base ≤ w.heap.size) : OwnB (w.alloc (.cells #[] 5)) base (.slice (some ⟨w.heap.size, 0, none⟩) 0 0) [] := OwnB.lit [] hb (by simp)
section
variable {P : Program} {ops : Array Oper} {rest : List Oper} {o : Oper} {a : Act} {Q : Exit → Act → World → Prop} {w : World}
theorem step_app {K : Act → World → Prop} {E : Prop} (hgd : o.guard = none) (s x : Operand) (ho : o.op = .call { callee := .builtin .append, args := #[s, x], argTypes := #[46, 46] })
    (base : Nat) (v : Value) (l : List (BitVec 8)) (hs : a.eval s = v) (hown : OwnB w base v l) (u : Value) (m : List (BitVec 8)) (hx : a.eval x = u) (ha : Arg w u m)
    (hbytes : l.length + m.length ≤ 140737488355328) (hbase : base ≤ w.heap.size)
    (h : ∀ v' w', OwnB w' base v' (l ++ m) → Below base w w' → K (a.put o.dst v') w') :
    if Region.wanted o (yielded ops a.tmps) = true then Oper.wp Try.prog o a w K Q else E := by
  obtain ⟨A, c, rfl, hc, hr⟩ := ha
  refine step_append_row hgd s x bytesT ho base v _ _ hs hown A m.length c (encL .u8 m) hx (by rw [encL_length, Nat.mul_one]) hr.cells (encL_one _ _) (by omega) hbase ?_
  intro v' w' h2 hgr _
  refine h v' w' ?_ (below_grown (Below.refl _ _) hbase hgr (fun q hq => (hown.lt q hq).1))
  unfold OwnB
  rw [List.length_append, encL_append]
  exact h2
theorem wpList_app (hgd : o.guard = none) (s x : Operand) (ho : o.op = .call { callee := .builtin .append, args := #[s, x], argTypes := #[46, 46] })
    (base : Nat) (v : Value) (l : List (BitVec 8)) (hs : a.eval s = v) (hown : OwnB w base v l) (u : Value) (m : List (BitVec 8)) (hx : a.eval x = u) (ha : Arg w u m)
    (hbytes : l.length + m.length ≤ 140737488355328) (hbase : base ≤ w.heap.size)
    (h : ∀ v' w', OwnB w' base v' (l ++ m) → Below base w w' → wpList Try.prog ops Q rest (a.put o.dst v') w') : wpList Try.prog ops Q (o :: rest) a w := by
  obtain ⟨A, c, rfl, hc, hr⟩ := ha
  refine wpList_append_row hgd s x bytesT ho base v _ _ hs hown A m.length c (encL .u8 m) hx (by rw [encL_length, Nat.mul_one]) hr.cells (encL_one _ _) (by omega) hbase ?_
  intro v' w' h2 hgr _
  refine h v' w' ?_ (below_grown (Below.refl _ _) hbase hgr (fun q hq => (hown.lt q hq).1))
  unfold OwnB
  rw [List.length_append, encL_append]
  exact h2
end
end Go.Proofs.Ytjghhbollgggoaa
