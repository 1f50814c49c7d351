/- append of bytes to owned bytes where lengths add up beyond the reach. -/
import Derived.Test.YtfamcgmgcchppaaArgV0
import Derived.Deep.DeepAppendWide
namespace Go.Proofs.Ytfamcgmgcchppaa
open Go.RowKit
set_option linter.unusedVariables false
theorem run_append_roww (ty : TypeId) (w : World) (base : Nat) (v : Value) (n : Nat) (xs : List Value) (hown : w.ownsRow base 5 1 v n xs)
    (A : Option Addr) (m c : Nat) (news : List Value) (hl : news.length = m) (hnews : Cells w A news) (h1 : ∀ u ∈ news, u.oneCell' = true) (hbytes : n + m ≤ 225179981368000) (hbase : base ≤ w.heap.size) :
    ∃ v' w', (Builtin.append_ #[22, 22] ty #[v, .slice A m c]).run Try.prog w = .ok v' w' ∧ w'.ownsRow base 5 1 v' (n + m) (xs ++ news) ∧ w.grownBy w' v.ownBlock := by
  by_cases hm : m = 0
  · subst hm
    have hn : news = [] := List.eq_nil_of_length_eq_zero hl
    subst hn
    exact ⟨v, w, run_append_nothing ty bytesT w base v n c xs hown A, by simpa using hown, ⟨rfl, rfl, rfl, Nat.le_refl _, fun _ _ _ => rfl⟩⟩
  · obtain ⟨i, hi, hz, hs, hb⟩ := info_parts bytesT.hi
    have hpos : 0 < news.length := by omega
    obtain ⟨a, rfl, _⟩ := hnews 0 _ (List.getElem?_eq_getElem hpos)
    obtain ⟨v', w', hr, h2, h3, _⟩ := run_append_own_wide (P := Try.prog) w base 22 ty 5 i (.int .u8 0) 1 1 bytesT.ht hi hz hs hb bytesT.hz bytesT.hs v n xs hown a m c news (by omega) (fun j u hu => by obtain ⟨a', ha, hc⟩ := hnews j u hu; cases ha; exact hc) h1 (by unfold maxLen; omega) (by omega) hbase
    exact ⟨v', w', hr, h2, h3⟩
theorem wpList_appw {ops : Array Oper} {rest : List Oper} {o : Oper} {a : Act} {Q : Exit → Act → World → Prop} {w : World} (hgd : o.guard = none) (s x : Operand) (ho : o.op = .call { callee := .builtin .append, args := #[s, x], argTypes := #[22, 22] })
    (base : Nat) (v : Value) (l : List (BitVec 8)) (hs : a.eval s = v) (hown : OwnB w base v l) (u : Value) (m : List (BitVec 8)) (hx : a.eval x = u) (ha : Arg w u m)
    (hbytes : l.length + m.length ≤ 225179981368000) (hbase : base ≤ w.heap.size)
    (h : ∀ v' w', OwnB w' base v' (l ++ m) → Below base w w' → wpList Try.prog ops Q rest (a.put o.dst v') w') : wpList Try.prog ops Q (o :: rest) a w := by
  obtain ⟨A, c, rfl, hc, hr⟩ := ha
  obtain ⟨v', w', hrun, h2, h3⟩ := run_append_roww o.type w base v l.length (encL .u8 l) hown A m.length c (encL .u8 m) (by rw [encL_length]) hr.cells (encL_one _ _) hbytes hbase
  refine wpList_plain hgd fun K hK => ?_
  unfold Oper.wp execOp
  simp only [ho, resolve, invoke, builtin, Sem.run_bind, Sem.run_pure, Result.andThen_ok, List.map_toArray, List.map_cons, List.map_nil, hs, hx, hrun]
  refine hK _ _ (h v' w' ?_ (below_grown (Below.refl _ _) hbase h3 (fun q hq => (hown.lt q hq).1)))
  unfold OwnB
  rw [List.length_append, encL_append]
  exact h2
end Go.Proofs.Ytfamcgmgcchppaa
