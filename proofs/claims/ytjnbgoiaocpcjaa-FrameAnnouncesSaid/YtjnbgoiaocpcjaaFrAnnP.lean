/- Rows of keys; which announcements may be. -/
import Derived.Test.YtjnbgoiaocpcjaaFrGetP
import Derived.Test.YtjnbgoiaocpcjaaEnvMay
namespace Go.Proofs.Ytjnbgoiaocpcjaa
open Go.RowKit
set_option linter.unusedVariables false
set_option linter.unusedSimpArgs false
def z32k : List (BitVec 8) := List.replicate 32 0
theorem keysT : ElemT Try.prog 76 26 (.agg (encs .u8 z32k)) 32 32 := ⟨Try.underlying76, by kernel_rfl, by kernel_rfl, by omega, by omega⟩
theorem kernelZeroKey (w : World) : (zeroValue 26).run Try.prog w = .ok (.agg (encs .u8 z32k)) w := by kernel_rfl
theorem sizeOfKey (w : World) : (sizeOf 26).run Try.prog w = .ok 32 w := by kernel_rfl
theorem run_bslice_key (k : List (BitVec 8)) (hk : k.length = 32) (w : World) : (Instr.buildSlice 76 1 #[(0, .agg (encs .u8 k))]).run Try.prog w = .ok (.slice (some ⟨w.heap.size, 0, none⟩) 1 1) (w.alloc (.cells (encs .u8 k) 26)) := by
  have hf := fill_tiles (fun i => some (i * 32, 32)) [.agg (encs .u8 k)] 0 [] (encs .u8 z32k).toList (fun j p h => by
    have e : (Value.cells (.agg (encs .u8 k))).size = 32 := by simp [Value.cells, encs_size, hk]
    rcases j with _ | j
    · simp [tiles, e] at h
      subst h
      rfl
    · simp [tiles] at h) (by simp [catCells, Value.cells, encs_size, hk, encs_toList, encL_length, z32k])
  have e5 : (catCells [.agg (encs .u8 k)]).length = 32 := by simp [catCells, Value.cells, encs_size, hk]
  have e6 : ((encs .u8 z32k).toList.drop 32) = [] := List.drop_of_length_le (by simp [encs_size, z32k])
  rw [e5, e6, List.append_nil, List.nil_append, List.nil_append, Array.toArray_toList] at hf
  have e7 : (catCells [.agg (encs .u8 k)]).toArray = encs .u8 k := by simp [catCells, Value.cells]
  rw [e7] at hf
  have hz : (Array.range (1 * 32)).map ((encs .u8 z32k)[· % (encs .u8 z32k).size]!) = encs .u8 z32k := by kernel_rfl
  unfold Instr.buildSlice
  simp only [Sem.run_bind, run_underlying Try.underlying76, Result.andThen_ok, sizeOfKey, kernelZeroKey, Sem.run_pure]
  simp only [show ¬ (1 * 32 > 2 ^ 24) by decide, show ¬ (1 * 32 = 0) by decide, if_false, Sem.run_pure, Sem.run_bind, Result.andThen_ok, kernelZeroKey]
  simp only [Value.cells, hz, List.toList_toArray] at *
  rw [show [((0 : Nat), Value.agg (encs .u8 k))] = partsFrom 0 [Value.agg (encs .u8 k)] from rfl, hf]
  rfl
theorem size_ann : (Try.prog.info? 78).map (·.size) = some 2 := by kernel_rfl
def rightA (r : BitVec 64) (n : Nat) : Bool := decide (0 < wb r) && decide (0 < n) && decide (n ≤ 3)
theorem right_any3 (r : BitVec 64) (A : Option Addr) (n cap : Nat) (w : World) : Calls Try.prog 66 #[.agg #[.int .u64 (wb r), .slice A n cap]] w fun e w' => e = .returned (.bool (rightA r n)) ∧ Below w.heap.size w w' := by
  go_enter Try.func66, Try.ntmps66
  go_wp2_with fail
  · go_ret
    have : rightA r n = decide ((n : Int) ≤ 3) := by unfold rightA; rw [Bool.eq_iff_iff]; simp; omega
    exact ⟨by rw [this]; rfl, (Below.refl _ _).alloc (Nat.le_refl _) _⟩
  · go_ret
    have : rightA r n = false := by unfold rightA; rw [Bool.eq_iff_iff]; simp; omega
    exact ⟨by rw [this]; rfl, (Below.refl _ _).alloc (Nat.le_refl _) _⟩
  · go_ret
    have : rightA r n = false := by unfold rightA; rw [Bool.eq_iff_iff]; simp; omega
    exact ⟨by rw [this]; rfl, (Below.refl _ _).alloc (Nat.le_refl _) _⟩
/-- A value that owns keys: their bytes. -/
def OwnK (w : World) (base : Nat) (v : Value) (n : Nat) (l : List (BitVec 8)) : Prop := w.ownsRow base 26 32 v n (encL .u8 l)
theorem OwnK.nil (w : World) (base : Nat) : OwnK w base (.slice none 0 0) 0 [] := ⟨rfl, .inl ⟨rfl, rfl⟩⟩
theorem OwnK.upd {w w' : World} {base g n : Nat} {v : Value} {l : List (BitVec 8)} (h : OwnK w base v n l) (hu : Upd g w w') (hg : g < base) : OwnK w' base v n l := by
  refine ⟨h.1, ?_⟩
  rcases h.2 with h2 | ⟨g', cap, cur, hv, hg', hlt, r⟩
  · exact .inl h2
  · exact .inr ⟨g', cap, cur, hv, hg', (hu.block g' (Array.getElem?_eq_some_iff.1 hlt).1 (by omega)).trans hlt, r⟩
theorem OwnK.below {w w' : World} {base n : Nat} {v : Value} {l : List (BitVec 8)} (h : OwnK w base v n l) (hb : Below w.heap.size w w') : OwnK w' base v n l := owns_below h hb
theorem OwnK.base {w : World} {base base' n : Nat} {v : Value} {l : List (BitVec 8)} (h : OwnK w base v n l) (hb : base' ≤ base) : OwnK w base' v n l := owns_base h hb
theorem OwnK.form {w : World} {base n : Nat} {v : Value} {l : List (BitVec 8)} (h : OwnK w base v n l) : ∃ A cap, v = .slice A n cap := by
  obtain ⟨A, cap, hv, -⟩ := owns_form h
  exact ⟨A, cap, hv⟩
/-- A key is appended. -/
theorem step_appk {P : Program} {ops : Array Oper} {o : Oper} {a : Act} {Q : Exit → Act → World → Prop} {w : World} {K : Act → World → Prop} {E : Prop} (hP : P = Try.prog) (hgd : o.guard = none) (s x : Operand) (ho : o.op = .call { callee := .builtin .append, args := #[s, x], argTypes := #[76, 76] })
    (base : Nat) (v : Value) (n : Nat) (l : List (BitVec 8)) (hs : a.eval s = v) (hown : OwnK w base v n l) (g : Nat) (k : List (BitVec 8)) (hk : k.length = 32) (hx : a.eval x = .slice (some ⟨g, 0, none⟩) 1 1) (hB : Blk w g (encs .u8 k) 26) (hn : n ≤ 1048576) (hbase : base ≤ w.heap.size)
    (h : ∀ v' w', OwnK w' base v' (n + 1) (l ++ k) → w.grownBy w' v.ownBlock → Below base w w' → K (a.put o.dst v') w') : if Region.wanted o (yielded ops a.tmps) = true then Oper.wp P o a w K Q else E := by
  subst hP
  refine step_append_row hgd s x keysT ho base v n (encL .u8 l) hs hown (some ⟨g, 0, none⟩) 1 1 (encL .u8 k) hx (by rw [encL_length, hk]) hB.rd.cells (encL_one _ _) (by omega) hbase ?_
  intro v' w' h2 hgr _
  refine h v' w' ?_ hgr (below_grown (Below.refl _ _) hbase hgr (fun q hq => (hown.lt q hq).1))
  unfold OwnK
  rw [encL_append]
  exact h2
theorem wpList_appk {ops : Array Oper} {rest : List Oper} {o : Oper} {a : Act} {Q : Exit → Act → World → Prop} {w : World} (hgd : o.guard = none) (s x : Operand) (ho : o.op = .call { callee := .builtin .append, args := #[s, x], argTypes := #[76, 76] })
    (base : Nat) (v : Value) (n : Nat) (l : List (BitVec 8)) (hs : a.eval s = v) (hown : OwnK w base v n l) (g : Nat) (k : List (BitVec 8)) (hk : k.length = 32) (hx : a.eval x = .slice (some ⟨g, 0, none⟩) 1 1) (hB : Blk w g (encs .u8 k) 26) (hn : n ≤ 1048576) (hbase : base ≤ w.heap.size)
    (h : ∀ v' w', OwnK w' base v' (n + 1) (l ++ k) → w.grownBy w' v.ownBlock → Below base w w' → wpList Try.prog ops Q rest (a.put o.dst v') w') : wpList Try.prog ops Q (o :: rest) a w := by
  refine wpList_append_row hgd s x keysT ho base v n (encL .u8 l) hs hown (some ⟨g, 0, none⟩) 1 1 (encL .u8 k) hx (by rw [encL_length, hk]) hB.rd.cells (encL_one _ _) (by omega) hbase ?_
  intro v' w' h2 hgr _
  refine h v' w' ?_ hgr (below_grown (Below.refl _ _) hbase hgr (fun q hq => (hown.lt q hq).1))
  unfold OwnK
  rw [encL_append]
  exact h2
theorem step_bslice_key {ops : Array Oper} {o : Oper} {a : Act} {Q : Exit → Act → World → Prop} {w : World} {K : Act → World → Prop} {E : Prop} (hgd : o.guard = none) (x : Operand) (ho : o.op = .buildSlice 76 1 #[(0, x)]) (k : List (BitVec 8)) (hk : k.length = 32) (hx : a.eval x = .agg (encs .u8 k))
    (h : K (a.put o.dst (.slice (some ⟨w.heap.size, 0, none⟩) 1 1)) (w.alloc (.cells (encs .u8 k) 26))) : if Region.wanted o (yielded ops a.tmps) = true then Oper.wp Try.prog o a w K Q else E := by
  have hw : Region.wanted o (yielded ops a.tmps) = true := by simp [Region.wanted, hgd]
  have hb := run_bslice_key k hk w
  rw [← hx] at hb
  rw [if_pos hw]
  unfold Oper.wp execOp
  simp only [ho, Sem.run_bind, List.map_toArray, List.map_cons, List.map_nil, hb, Result.andThen_ok, Sem.run_pure]
  exact h
theorem wpList_bslice_key {ops : Array Oper} {rest : List Oper} {o : Oper} {a : Act} {Q : Exit → Act → World → Prop} {w : World} (hgd : o.guard = none) (x : Operand) (ho : o.op = .buildSlice 76 1 #[(0, x)]) (k : List (BitVec 8)) (hk : k.length = 32) (hx : a.eval x = .agg (encs .u8 k))
    (h : wpList Try.prog ops Q rest (a.put o.dst (.slice (some ⟨w.heap.size, 0, none⟩) 1 1)) (w.alloc (.cells (encs .u8 k) 26))) : wpList Try.prog ops Q (o :: rest) a w := by
  refine wpList_plain hgd fun K hK => ?_
  have hb := run_bslice_key k hk w
  rw [← hx] at hb
  unfold Oper.wp execOp
  simp only [ho, Sem.run_bind, List.map_toArray, List.map_cons, List.map_nil, hb, Result.andThen_ok, Sem.run_pure]
  exact hK _ _ h
end Go.Proofs.Ytjnbgoiaocpcjaa
