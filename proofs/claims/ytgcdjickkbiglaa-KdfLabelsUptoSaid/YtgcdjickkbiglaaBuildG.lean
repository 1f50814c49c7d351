/- A struct or array built at an operation with a guard. -/
import Derived.Test.YtgcdjickkbiglaaBuild
namespace Go.Proofs.Ytgcdjickkbiglaa
open Go.RowKit
theorem wpList_build_g0 {P : Program} {ops : Array Oper} {rest : List Oper} {o : Oper} {a : Act} {Q : Exit → Act → World → Prop} {w : World} (hw : Region.wanted o (yielded ops a.tmps) = true) (t : TypeId) (parts : Array (Nat × Operand)) (ho : o.op = .build t parts) (v : Value) (vs : Array (Nat × Value)) (hrun : ∀ wx, (Instr.build t vs).run P wx = .ok v wx) (hvs : (parts.map fun p => (p.1, a.eval p.2)) = vs) (h : wpList P ops Q rest (a.put o.dst v) w) : wpList P ops Q (o :: rest) a w := by
  refine wpList_step fun K hK => ?_
  rw [if_pos hw]
  subst hvs
  unfold Oper.wp execOp
  simp only [ho, Sem.run_bind, hrun, Result.andThen_ok, Sem.run_pure]
  exact hK _ _ h
end Go.Proofs.Ytgcdjickkbiglaa
