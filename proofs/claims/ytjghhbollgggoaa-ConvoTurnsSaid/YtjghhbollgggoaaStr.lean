/- Strings as lists of bytes: appended, turned into bytes, come in. -/
import Derived.Test.YtjghhbollgggoaaBEq
import Derived.Test.YtjghhbollgggoaaOpenS
import Derived.Lib.AppendStr
import Derived.Lib.ConvBytes
import Derived.ChangeMaps5
namespace Go.Proofs.Ytjghhbollgggoaa
open Go.RowKit Go.ChangeShapes Go.WideShapes
def bytesS (s : ByteArray) : List (BitVec 8) := s.data.toList.map UInt8.toBitVec
theorem strB_bytesS (s : ByteArray) : strB (bytesS s) = s := by
  obtain ⟨⟨l⟩⟩ := s
  simp [strB, bytesS, Function.comp_def]
theorem bytesS_strB (l : List (BitVec 8)) : bytesS (strB l) = l := by simp [strB, bytesS, Function.comp_def]
theorem strCells_strB (l : List (BitVec 8)) : Lib.strCells (strB l) = encL .u8 l := by
  unfold Lib.strCells encL
  rw [strB_toList, List.map_map]
  rfl
theorem wpList_app_str {ops : Array Oper} {rest : List Oper} {o : Oper} {a : Act} {Q : Exit → Act → World → Prop} {w : World} (hgd : o.guard = none) (s x : Operand) (ho : o.op = .call { callee := .builtin .append, args := #[s, x], argTypes := #[46, 9] })
    (base : Nat) (v : Value) (l : List (BitVec 8)) (hs : a.eval s = v) (hown : OwnB w base v l) (m : List (BitVec 8)) (hx : a.eval x = .string (strB m))
    (hbytes : l.length + m.length ≤ 140737488355328) (hbase : base ≤ w.heap.size)
    (h : ∀ v' w', OwnB w' base v' (l ++ m) → w.grownBy w' v.ownBlock → Below base w w' → wpList Try.prog ops Q rest (a.put o.dst v') w') : wpList Try.prog ops Q (o :: rest) a w := by
  obtain ⟨i, hi, hz, hs', hb⟩ := info_parts bytesT.hi
  refine Lib.wpList_append_own_string w hgd s x 46 9 ho base 5 i Try.underlying46 Try.underlying9 hi hz hs' hb v l.length (encL .u8 l) hs hown (strB m) hx (by rw [strB_size]; unfold maxLen; omega) (by rw [strB_size]; omega) hbase ?_
  intro v' w' h2 hgr _
  refine h v' w' ?_ hgr (below_grown (Below.refl _ _) hbase hgr (fun q hq => (hown.lt q hq).1))
  unfold OwnB
  rw [List.length_append, encL_append, ← strCells_strB m, ← strB_size m]
  exact h2
set_option maxRecDepth 100000 in
theorem conv_str (w : World) (l : List (BitVec 8)) : ∃ c W', (convert 9 46 (.string (strB l))).run Try.prog w = .ok (.slice (some ⟨w.heap.size, 0, none⟩) l.length c) W' ∧ l.length ≤ c ∧ Rd W' .u8 (some ⟨w.heap.size, 0, none⟩) l ∧ Below w.heap.size w W' := by
  have h := Lib.run_convert_string_bytes (P := Try.prog) w 9 46 5 (strB l) Try.underlying9 Try.underlying46 Try.underlying5
  rw [strB_size] at h
  refine ⟨_, _, h, grownCap_ge w l.length 0 5, fun i hi => ⟨_, _, rfl, ?_⟩, ⟨rfl, rfl, rfl, by rw [Lib.bytesWorld_size]; omega, fun j hj => Lib.bytesWorld_at_old w 5 (strB l) j hj⟩⟩
  rw [Nat.zero_add, Lib.bytesWorld_cell w 5 (strB l) i (by rw [strB_size]; exact hi), strB_toList]
  congr 2
  simp [List.getD, hi, wb]
theorem open_strB {P : Program} {W : World} {r : Reach} {b0 : Nat} {H : Type} {enc : TypeId × Value → H} {t : TypeId} {v : Value} {d : DataW H} {ps : List MemPlace} (ht : P.underlying t = some .string) (hval : Value.okWide P W r b0 t v) (hd : DataW.Trod enc P W 0 (fun _ => true) true t v d ps) :
    ∃ l : List (BitVec 8), v = .string (strB l) ∧ l.length ≤ 9223372036854775807 := by
  obtain ⟨s, rfl, _, _, hs⟩ := Go.ChangeMaps.open_string ht hval hd
  refine ⟨bytesS s, by rw [strB_bytesS], ?_⟩
  rw [← strB_size, strB_bytesS]
  unfold maxLen at hs
  omega
end Go.Proofs.Ytjghhbollgggoaa
