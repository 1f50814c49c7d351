/- Slices of the function's own: bytes of any slice (a nil one too) appended where there is room. -/
import Derived.Test.YtdpdpeifmignnaaRefXor
import Derived.Deep.DeepAppendRoom
import Derived.Laws.MakeOwn
namespace Go.Proofs.Ytdpdpeifmignnaa
open Go.RowKit
theorem encL_get (k : IntKind) {n : Nat} (l : List (BitVec n)) (j : Nat) (h : j < l.length) : (encL k l)[j]? = some (.int k (wb (l.getD j 0))) := by simp [encL, List.getD, h]
theorem encL_one (k : IntKind) {n : Nat} (l : List (BitVec n)) : ∀ u ∈ encL k l, u.oneCell' = true := by
  intro u hu
  simp only [encL, List.mem_map] at hu
  obtain ⟨x, _, rfl⟩ := hu
  rfl
section
variable {P : Program}
theorem run_append_words (w : World) (base : Nat) (t ty e : TypeId) (i : TypeInfo) (ht : P.underlying t = some (.slice e)) (hi : P.info? e = some i) (hsize : i.size = 1)
    (g n cap : Nat) (xs : List Value) (hown : w.ownsRow base e 1 (.slice (some ⟨g, 0, none⟩) n cap) n xs) (A : Option Addr) (c : Nat) {k : IntKind} {b : Nat} (l : List (BitVec b)) (hR : Rd w k A l) (hroom : n + l.length ≤ cap) :
    ∃ w', (Builtin.append_ #[t, t] ty #[.slice (some ⟨g, 0, none⟩) n cap, .slice A l.length c]).run P w = .ok (.slice (some ⟨g, 0, none⟩) (n + l.length) cap) w' ∧
      w'.ownsRow base e 1 (.slice (some ⟨g, 0, none⟩) (n + l.length) cap) (n + l.length) (xs ++ encL k l) ∧ w.grownBy w' (some g) := by
  by_cases h0 : l = []
  · subst h0
    refine ⟨w, ?_, by simpa [encL] using hown, ⟨rfl, rfl, rfl, Nat.le_refl _, fun _ _ _ => rfl⟩⟩
    have hle : n ≤ cap := by simpa using hroom
    cases A <;> simp [Builtin.append_, run_underlying ht, sizeOf, typeInfo, hi, Builtin.lenOf, Builtin.firstCells, loadCells, loadCellsFrom, storeCells, hle]
  · have hp : 0 < l.length := List.length_pos_iff.2 h0
    obtain ⟨g', off, rfl, _⟩ := hR 0 hp
    refine run_append_own_spare w base t ty e i 1 ht hi hsize g n cap xs hown ⟨g', off, none⟩ l.length c (encL k l) (by simp [encL]) ?_ (encL_one k l) hroom
    intro j u hu
    have hj : j < l.length := by
      have := (List.getElem?_eq_some_iff.1 hu).1
      simpa [encL] using this
    rw [encL_get k l j hj] at hu
    obtain ⟨g2, off2, he, hc⟩ := hR j hj
    simp only [Option.some.injEq, Addr.mk.injEq, and_true] at he
    obtain ⟨rfl, rfl⟩ := he
    have hadd : (⟨g', off, none⟩ : Addr).add j = ⟨g', off + j, none⟩ := by unfold Addr.add; split <;> simp_all
    rw [hadd, hc]
    exact hu
theorem wpList_append_words (w : World) {ops : Array Oper} {rest : List Oper} {o : Oper} {a : Act} {Q : Exit → Act → World → Prop} (hgd : o.guard = none) (s x : Operand) (t : TypeId)
    (ho : o.op = .call { callee := .builtin .append, args := #[s, x], argTypes := #[t, t] })
    (base : Nat) (e : TypeId) (i : TypeInfo) (ht : P.underlying t = some (.slice e)) (hi : P.info? e = some i) (hsize : i.size = 1)
    (g n cap : Nat) (xs : List Value) (hs : a.eval s = .slice (some ⟨g, 0, none⟩) n cap) (hown : w.ownsRow base e 1 (.slice (some ⟨g, 0, none⟩) n cap) n xs)
    (A : Option Addr) (c : Nat) {k : IntKind} {b : Nat} (l : List (BitVec b)) (hx : a.eval x = .slice A l.length c) (hR : Rd w k A l) (hroom : n + l.length ≤ cap)
    (h : ∀ w', w'.ownsRow base e 1 (.slice (some ⟨g, 0, none⟩) (n + l.length) cap) (n + l.length) (xs ++ encL k l) → w.grownBy w' (some g) → wpList P ops Q rest (a.put o.dst (.slice (some ⟨g, 0, none⟩) (n + l.length) cap)) w') : wpList P ops Q (o :: rest) a w := by
  refine wpList_plain hgd fun K hK => ?_
  obtain ⟨w', hr, h2, h3⟩ := run_append_words (P := P) w base t o.type e i ht hi hsize g n cap xs hown A c l hR hroom
  unfold Oper.wp execOp
  simp only [ho, resolve, invoke, builtin, Sem.run_bind, Sem.run_pure, Result.andThen_ok, List.map_toArray, List.map_cons, List.map_nil, hs, hx, hr]
  exact hK _ _ (h w' h2 h3)
end
/-- make([]T, 0, m) of words, where m is worked out. -/
theorem run_make_room {P : Program} (t e : TypeId) (k : IntKind) (n bytes : Nat) (ht : P.underlying t = some (.slice e)) (hi : (P.info? e).map (fun i => (i.zero, i.size, i.bytes)) = some (some (.int k 0), 1, bytes)) (m : Nat) (hm : bytes * m ≤ 281474976710656) (hm2 : m ≤ 9223372036854775807) (wx : World) :
    (Instr.makeSlice t (.int .i64 0) (.int .i64 (m : Int))).run P wx = .ok (.slice (some ⟨wx.heap.size, 0, none⟩) 0 m) (wx.alloc (.cells (encs k (List.replicate m (0 : BitVec n))) e)) := by
  obtain ⟨i, hi, hz, hs, hb⟩ := info_parts hi
  have := run_make (P := P) wx t e i (.int k 0) ht hi hz .i64 .i64 0 (m : Int) (by omega) (by omega) (by rw [hb, ← Int.natCast_mul]; omega) (by omega)
  rw [Int.toNat_natCast, hs, Nat.mul_one] at this
  rw [show (0 : Int).toNat = 0 from rfl] at this
  rw [this]
  simp only [Value.cells, madeCells_words k (n := n)]
theorem owns_made {w : World} {base g m : Nat} {e : TypeId} {k : IntKind} {n : Nat} {l : List (BitVec n)} (h : Blk w g (encs k l) e) (hb : base ≤ g) (hl : l.length = m) (hm : m ≤ maxLen) : w.ownsRow base e 1 (.slice (some ⟨g, 0, none⟩) 0 m) 0 [] :=
  ⟨rfl, .inr ⟨g, m, _, rfl, hb, h, by omega, hm, by rw [encs_size, hl]; omega, rfl⟩⟩
end Go.Proofs.Ytdpdpeifmignnaa
