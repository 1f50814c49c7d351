/- Packets that came in by value, opened (printed by genopen.py). -/
import Derived.Test.YtjnbgoiaocpcjaaOpenI2
import Derived.Test.YtjnbgoiaocpcjaaClone
namespace Go.Proofs.Ytjnbgoiaocpcjaa
open Go.RowKit Go.ChangeShapes Go.WideShapes
theorem cell_slice {P : Program} {W : World} {r : Reach} {base : Nat} {t e : TypeId} (ht : P.underlying t = some (.slice e)) {v : Value} (h : Cell.okWide P W r base t v) : Value.okWide P W r base t v := by
  unfold Value.okWide
  rw [ht]
  exact h
theorem types_up : Try.prog.cellTypes Try.prog.depth 57 = some [3, 3, 55, 38] := by kernel_rfl
theorem field3_up : (Try.prog.fieldsOf 57)[3]?.map (fun f => (f.type, f.offset)) = some (38, 3) := by kernel_rfl
theorem under_up : Try.prog.underlying 57 = some (.struct (Try.prog.fieldsOf 57)) := by kernel_rfl
set_option maxRecDepth 100000 in
theorem open_up {W : World} {r : Reach} {b0 : Nat} {H : Type} {enc : TypeId × Value → H} {v : Value} {d : DataW H} {ps : List MemPlace} (hval : Value.okWide Try.prog W r b0 57 v) (hd : DataW.Trod enc Try.prog W 0 (fun _ => true) true 57 v d ps) :
    ∃ (c s : Int) (x : BitVec 64) (A : Option Addr) (cap : Nat) (l : List (BitVec 8)), v = .agg #[.int .i64 c, .int .i64 s, .int .u64 (wb x), .slice A l.length cap] ∧ l.length ≤ cap ∧ cap ≤ 9223372036854775807 ∧ Rd W .u8 A l := by
  obtain ⟨cs, rfl, hl, hc⟩ := okWide_cells Try.underlying57 rfl _ types_up (by kernel_rfl) hval
  match cs, hl with
  | [v0, v1, v2, v3], _ =>
    obtain ⟨c, rfl, _⟩ := cell_i64 Try.underlying3 (hc 0 v0 3 rfl rfl)
    obtain ⟨s, rfl, _⟩ := cell_i64 Try.underlying3 (hc 1 v1 3 rfl rfl)
    obtain ⟨x, rfl⟩ := cell_word (n := 64) Try.underlying55 isU64 (hc 2 v2 55 rfl rfl)
    have h3 := cell_slice Try.underlying38 (hc 3 v3 38 rfl rfl)
    obtain ⟨a0, len, cap, rfl⟩ := okWide_slice Try.underlying38 h3
    obtain ⟨fuel, hf⟩ := hd
    obtain ⟨xs, n, _, _, _, hxl, hfs⟩ := DataW.trod_struct under_up hf
    have hfield := field3_up
    cases hq : (Try.prog.fieldsOf 57)[3]? with
    | none => rw [hq] at hfield; cases hfield
    | some fd =>
      rw [hq] at hfield
      simp only [Option.map_some, Option.some.injEq, Prod.mk.injEq] at hfield
      have ht := hfs 3 fd hq
      rw [hfield.1, hfield.2, show Try.prog.cellsOf 38 = 1 by kernel_rfl] at ht
      have hlt : 3 < xs.length := by rw [hxl]; exact (Array.getElem?_eq_some_iff.1 hq).1
      rw [List.getElem?_eq_getElem hlt] at ht
      obtain ⟨A, c2, l, e, h1, h2, hR⟩ := open_row (n := 8) Try.underlying38 Try.underlying5 isU8 (by kernel_rfl) h3 (ps := xs[3].2) (d := xs[3].1) ⟨n, by simpa [Value.cells] using ht⟩
      exact ⟨c, s, x, A, c2, l, by rw [e], h1, h2, hR⟩
theorem types_down : Try.prog.cellTypes Try.prog.depth 59 = some [3, 3, 55, 38] := by kernel_rfl
theorem field3_down : (Try.prog.fieldsOf 59)[3]?.map (fun f => (f.type, f.offset)) = some (38, 3) := by kernel_rfl
theorem under_down : Try.prog.underlying 59 = some (.struct (Try.prog.fieldsOf 59)) := by kernel_rfl
set_option maxRecDepth 100000 in
theorem open_down {W : World} {r : Reach} {b0 : Nat} {H : Type} {enc : TypeId × Value → H} {v : Value} {d : DataW H} {ps : List MemPlace} (hval : Value.okWide Try.prog W r b0 59 v) (hd : DataW.Trod enc Try.prog W 0 (fun _ => true) true 59 v d ps) :
    ∃ (c s : Int) (x : BitVec 64) (A : Option Addr) (cap : Nat) (l : List (BitVec 8)), v = .agg #[.int .i64 c, .int .i64 s, .int .u64 (wb x), .slice A l.length cap] ∧ l.length ≤ cap ∧ cap ≤ 9223372036854775807 ∧ Rd W .u8 A l := by
  obtain ⟨cs, rfl, hl, hc⟩ := okWide_cells Try.underlying59 rfl _ types_down (by kernel_rfl) hval
  match cs, hl with
  | [v0, v1, v2, v3], _ =>
    obtain ⟨c, rfl, _⟩ := cell_i64 Try.underlying3 (hc 0 v0 3 rfl rfl)
    obtain ⟨s, rfl, _⟩ := cell_i64 Try.underlying3 (hc 1 v1 3 rfl rfl)
    obtain ⟨x, rfl⟩ := cell_word (n := 64) Try.underlying55 isU64 (hc 2 v2 55 rfl rfl)
    have h3 := cell_slice Try.underlying38 (hc 3 v3 38 rfl rfl)
    obtain ⟨a0, len, cap, rfl⟩ := okWide_slice Try.underlying38 h3
    obtain ⟨fuel, hf⟩ := hd
    obtain ⟨xs, n, _, _, _, hxl, hfs⟩ := DataW.trod_struct under_down hf
    have hfield := field3_down
    cases hq : (Try.prog.fieldsOf 59)[3]? with
    | none => rw [hq] at hfield; cases hfield
    | some fd =>
      rw [hq] at hfield
      simp only [Option.map_some, Option.some.injEq, Prod.mk.injEq] at hfield
      have ht := hfs 3 fd hq
      rw [hfield.1, hfield.2, show Try.prog.cellsOf 38 = 1 by kernel_rfl] at ht
      have hlt : 3 < xs.length := by rw [hxl]; exact (Array.getElem?_eq_some_iff.1 hq).1
      rw [List.getElem?_eq_getElem hlt] at ht
      obtain ⟨A, c2, l, e, h1, h2, hR⟩ := open_row (n := 8) Try.underlying38 Try.underlying5 isU8 (by kernel_rfl) h3 (ps := xs[3].2) (d := xs[3].1) ⟨n, by simpa [Value.cells] using ht⟩
      exact ⟨c, s, x, A, c2, l, by rw [e], h1, h2, hR⟩
end Go.Proofs.Ytjnbgoiaocpcjaa
