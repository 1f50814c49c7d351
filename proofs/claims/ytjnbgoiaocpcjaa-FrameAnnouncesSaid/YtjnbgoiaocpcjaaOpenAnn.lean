/- An announcement that came in by value, opened. -/
import Derived.Test.YtjnbgoiaocpcjaaOpenSl
import Derived.Test.YtjnbgoiaocpcjaaClone
namespace Go.Proofs.Ytjnbgoiaocpcjaa
open Go.RowKit Go.ChangeShapes Go.WideShapes
set_option linter.unusedVariables false
theorem types_ann : Try.prog.cellTypes Try.prog.depth 78 = some [55, 76] := by kernel_rfl
theorem field1_ann : (Try.prog.fieldsOf 78)[1]?.map (fun f => (f.type, f.offset)) = some (76, 1) := by kernel_rfl
theorem under_ann : Try.prog.underlying 78 = some (.struct (Try.prog.fieldsOf 78)) := by kernel_rfl
theorem fieldsT_ann : (Try.prog.fieldsOf 78).toList.map (·.type) = [55, 76] := by kernel_rfl
set_option maxRecDepth 100000 in
theorem open_ann {W : World} {r : Reach} {b0 : Nat} {H : Type} {enc : TypeId × Value → H} {v : Value} {d : DataW H} {ps : List MemPlace} (hval : Value.okWide Try.prog W r b0 78 v) (hd : DataW.Trod enc Try.prog W 0 (fun _ => true) true 78 v d ps)
    {ts : List TypeId} {ds : List (DataW H)} (hsz : (DataW.weightsEach Try.prog ts ds).all (· ≤ reachBytes) = true) {j : Nat} (hj : ts[j]? = some 78) (hdj : ds[j]? = some d) :
    ∃ (x : BitVec 64) (A : Option Addr) (n cap : Nat) (l : List (BitVec 8)), v = .agg #[.int .u64 (wb x), .slice A n cap] ∧ n ≤ cap ∧ cap * 32 ≤ 140737488351232 ∧ Rd W .u8 A l ∧ l.length = 32 * n := by
  obtain ⟨cs, rfl, hl, hc⟩ := okWide_cells Try.underlying78 rfl _ types_ann (by kernel_rfl) hval
  match cs, hl with
  | [v0, v1], _ =>
    obtain ⟨x, rfl⟩ := cell_word (n := 64) Try.underlying55 isU64 (hc 0 v0 55 rfl rfl)
    obtain ⟨fuel, hf⟩ := hd
    obtain ⟨xs, n, _, hx, _, hxl, hfs⟩ := DataW.trod_struct under_ann hf
    have hfield := field1_ann
    cases hq : (Try.prog.fieldsOf 78)[1]? with
    | none => rw [hq] at hfield; cases hfield
    | some fd =>
      rw [hq] at hfield
      simp only [Option.map_some, Option.some.injEq, Prod.mk.injEq] at hfield
      have ht := hfs 1 fd hq
      rw [hfield.1, hfield.2, show Try.prog.cellsOf 76 = 1 by kernel_rfl] at ht
      have hlt : 1 < xs.length := by rw [hxl]; exact (Array.getElem?_eq_some_iff.1 hq).1
      rw [List.getElem?_eq_getElem hlt] at ht
      have ht' : DataW.trod enc Try.prog W 0 (fun _ => true) true n 76 [v1] = some xs[1] := by simpa [Value.cells] using ht
      obtain ⟨A, cap, ls, rfl, h1, h2, h3, h4, h5⟩ := open_cells (E := List (BitVec 8)) Try.underlying76 32 (by kernel_rfl) (encL .u8) (fun l => l.length = 32) (fun y hy => by rw [encL_length, hy]) (fun fuel cs x h => trod_arr_words Try.underlying26 Try.underlying5 isU8 (by kernel_rfl) (by kernel_rfl) h) ht'
      rw [flatMap_encL] at h5
      refine ⟨x, A, ls.length, cap, ls.flatten, rfl, h1, ?_, cells_rd h5, ?_⟩
      · rcases h3 with h3 | h3
        · omega
        · rw [show Try.prog.bytesOf 26 = 32 by kernel_rfl] at h3
          simp only [Prod.mk.injEq] at hx
          have hin : cap * 32 ∈ d.weights Try.prog 78 := by
            rw [hx.1]
            unfold DataW.weights
            rw [under_ann]
            simp only [fieldsT_ann]
            exact DataW.weights_mem_each (j := 1) rfl (by rw [List.getElem?_map, List.getElem?_eq_getElem hlt]; rfl) _ h3
          have := DataW.weights_mem_each hj hdj _ hin
          rw [List.all_eq_true] at hsz
          exact of_decide_eq_true (hsz _ this)
      · exact flatten_len h4
end Go.Proofs.Ytjnbgoiaocpcjaa
