/- '==' of arrays of words that go by value. -/
import Derived.Test.YtjghhbollgggoaaMem
import Derived.Test.YtjghhbollgggoaaMix
import Derived.Laws.StructEq
namespace Go.Proofs.Ytjghhbollgggoaa
open Go.RowKit

theorem run_part_encs {P : Program} (e : TypeId) (ke : IntKind) {n : Nat} (he : P.underlying e = some (.int ke)) (l : List (BitVec n)) (k : IntKind) (i : Nat) (hi : i < l.length) (w : World) :
    (part e (encs k l) i).run P w = .ok (.int k (wb (l.getD i 0))) w := by
  have hagg : (isAgg e).run P w = .ok false w := by
    unfold isAgg
    rw [Sem.run_bind, run_underlying he w]
    rfl
  have hg := encs_get k l i hi
  simp [part, hagg, hg]

theorem run_equalIn_encs {P : Program} (w : World) (d : Nat) (t e : TypeId) (k : IntKind) {n : Nat} (len : Nat) (ht : P.underlying t = some (.array len e)) (he : P.underlying e = some (.int k)) (hs : (P.info? e).map (·.size) = some 1)
    (l m : List (BitVec n)) (hl : l.length = len) (hm : m.length = len) :
    (Op.equalIn (d + 2) t (.agg (encs k l)) (.agg (encs k m))).run P w = .ok (l == m) w := by
  have hsz : (sizeOf e).run P w = .ok 1 w := by
    cases hq : P.info? e with
    | none => simp [hq] at hs
    | some inf =>
      have : inf.size = 1 := by simpa [hq] using hs
      simp [sizeOf, typeInfo, hq, this]
  rw [Op.equalIn]
  simp only [Sem.run_bind, run_underlying ht, Result.andThen_ok, hsz, Nat.mul_one]
  rw [Std.Legacy.Range.forIn_eq_forIn_range']
  simp only [Std.Legacy.Range.size]
  rw [show (len - 0 + 1 - 1) / 1 = len by omega]
  have step : ∀ (c i : Nat), i + c = len → (Sem.run P
          (forIn (List.range' i c) ((none, ()) : Option Bool × Unit) fun i __s => do
            let __do_lift ← part e (encs k l) i
            let __do_lift_1 ← part e (encs k m) i
            let __do_lift ← Op.equalIn (d + 1) e __do_lift __do_lift_1
            if (!__do_lift) = true then pure (ForInStep.done (some false, ())) else pure (ForInStep.yield (none, ())))
          w) = .ok (if l.drop i == m.drop i then none else some false, ()) w := by
    intro c
    induction c with
    | zero =>
      intro i hi
      rw [List.drop_of_length_le (by omega), List.drop_of_length_le (by omega)]
      simp
    | succ c ih =>
      intro i hi
      rw [List.range'_succ, List.forIn_cons]
      simp only [Sem.run_bind, run_part_encs e k he l k i (by omega), run_part_encs e k he m k i (by omega), Result.andThen_ok, run_equalIn_int w d e k k _ _ he]
      have h1 : l.drop i = l.getD i 0 :: l.drop (i + 1) := by
        rw [List.drop_eq_getElem_cons (by omega)]
        congr 1
        simp [List.getD, show i < l.length by omega]
      have h2 : m.drop i = m.getD i 0 :: m.drop (i + 1) := by
        rw [List.drop_eq_getElem_cons (by omega)]
        congr 1
        simp [List.getD, show i < m.length by omega]
      rw [h1, h2]
      by_cases hx : l.getD i 0 = m.getD i 0
      · have hb : (wb (l.getD i 0) == wb (m.getD i 0)) = true := by rw [hx]; simp
        simp only [hb, Bool.not_true, Bool.false_eq_true, if_false, Sem.run_pure, Result.andThen_ok]
        rw [ih (i + 1) (by omega), hx]
        simp
      · have hb : (wb (l.getD i 0) == wb (m.getD i 0)) = false := by
          rw [Bool.eq_false_iff]
          intro hc
          exact hx (wb_inj.1 (by simpa using hc))
        have hl' : (l.getD i 0 :: l.drop (i + 1) == m.getD i 0 :: m.drop (i + 1)) = false := by
          rw [Bool.eq_false_iff]
          intro hc
          simp only [beq_iff_eq, List.cons.injEq] at hc
          exact hx hc.1
        simp only [hb, Bool.not_false, if_true, Sem.run_pure, Result.andThen_ok, hl']
        simp
  rw [step len 0 (by omega)]
  simp only [List.drop_zero, Result.andThen_ok]
  cases hb : (l == m) <;> simp

/-- '==' of two arrays of words that go by value. -/
theorem run_eql_encs {P : Program} (w : World) (t e : TypeId) (k : IntKind) {n : Nat} (len : Nat) (ht : P.underlying t = some (.array len e)) (he : P.underlying e = some (.int k)) (hs : (P.info? e).map (·.size) = some 1)
    (l m : List (BitVec n)) (hl : l.length = len) (hm : m.length = len) : (binOp .eql t (.agg (encs k l)) (.agg (encs k m))).run P w = .ok (.bool (l == m)) w := by
  rw [run_eql_struct, run_equalIn_encs w 9998 t e k len ht he hs l m hl hm]
  rfl

/-- A whole value read in a region that draws its order. -/
theorem mix_load_row {P : Program} {ops : Array Oper} {Q : Exit → Act → World → Prop} {S : World → Prop} {eff rd ds : List Nat} {o : Oper} {rest : Plan} {i : Nat} {a : Act} {w : World}
    (hoi : ops[i]? = some o) (he : eff.contains i = false) (hr : rd.contains i = true) (hw : Region.wanted o (yielded ops a.tmps) = true) (ty : TypeId) (x : Operand) (ho : o.op = .load ty x) (g : Nat) (hx : a.eval x = .pointer (some ⟨g, 0, none⟩)) (cs : Array Value) (t : TypeId) (fr : Nat × Nat) (d : TypeDesc)
    (hg : ∀ w', S w' → w'.heap[g]? = some (.cells cs t fr)) (hu : P.underlying ty = some d) (hd : (match d with | .struct _ | .array _ _ => true | _ => false) = true) (hi : (P.info? ty).map (·.size) = some cs.size)
    (h : wpMix P ops Q S eff rd ds rest (a.put o.dst (.agg cs)) w) : wpMix P ops Q S eff rd ds (.step i rest) a w := by
  refine mix_read (.agg cs) hoi he hr hw (fun w' hs => ?_) h
  unfold execOp
  simp only [ho, hx, Instr.loadAt, Instr.sureAddr, Sem.run_bind, Sem.run_pure, Result.andThen_ok, run_loadVar_row w' g t ty cs fr d (hg w' hs) hu hd hi]
end Go.Proofs.Ytjghhbollgggoaa
