/- A conversation that came in by value, opened. -/
import Derived.Test.YtjghhbollgggoaaCvRep
import Derived.Test.YtjghhbollgggoaaOpenSl
import Derived.Test.YtjghhbollgggoaaOpenI2
import Derived.ChangeArms
namespace Go.Proofs.Ytjghhbollgggoaa
open Go.RowKit Go.ChangeShapes Go.WideShapes
set_option linter.unusedVariables false
section
variable {W : World} {H : Type} {enc : TypeId × Value → H}
theorem under_out : Try.prog.underlying 39 = some (.struct (Try.prog.fieldsOf 39)) := by kernel_rfl
theorem under_in : Try.prog.underlying 55 = some (.struct (Try.prog.fieldsOf 55)) := by kernel_rfl
theorem under_cv : Try.prog.underlying 26 = some (.struct (Try.prog.fieldsOf 26)) := by kernel_rfl
theorem fields_oi_out : (Try.prog.fieldsOf 39).map (fun f => (f.type, f.offset)) = #[(22, 0), (27, 1)] := by kernel_rfl
theorem fields_oi_in : (Try.prog.fieldsOf 55).map (fun f => (f.type, f.offset)) = #[(22, 0), (9, 1)] := by kernel_rfl
theorem fields_oi_cv : (Try.prog.fieldsOf 26).map (fun f => (f.type, f.offset)) = #[(22, 0), (23, 1), (3, 2), (22, 3), (24, 4)] := by kernel_rfl
theorem fieldsT_cv : (Try.prog.fieldsOf 26).toList.map (·.type) = [22, 23, 3, 22, 24] := by kernel_rfl
theorem field_at {fs : Array Field} {ps : Array (TypeId × Nat)} (h : fs.map (fun f => (f.type, f.offset)) = ps) (i : Nat) (t : TypeId) (o : Nat) (hi : ps[i]? = some (t, o)) : ∃ f, fs[i]? = some f ∧ f.type = t ∧ f.offset = o := by
  rw [← h, Array.getElem?_map] at hi
  cases hq : fs[i]? with
  | none => rw [hq] at hi; cases hi
  | some f =>
    rw [hq] at hi
    simp only [Option.map_some, Option.some.injEq, Prod.mk.injEq] at hi
    exact ⟨f, rfl, hi.1, hi.2⟩
set_option maxRecDepth 100000 in
theorem trod_out (fuel : Nat) (cs : List Value) (x : DataW H × List MemPlace) (h : DataW.trod enc Try.prog W 0 (fun _ => true) true fuel 39 cs = some x) : ∃ y : CE, outEl.ok y ∧ cs = outC y := by
  obtain ⟨xs, n, _, _, hl, hxl, hfs⟩ := DataW.trod_struct under_out h
  obtain ⟨f0, h0, t0, o0⟩ := field_at fields_oi_out 0 _ _ rfl
  obtain ⟨f1, h1, t1, o1⟩ := field_at fields_oi_out 1 _ _ rfl
  have g0 := hfs 0 f0 h0
  have g1 := hfs 1 f1 h1
  rw [t0, o0, show Try.prog.cellsOf 22 = 1 by kernel_rfl] at g0
  rw [t1, o1, show Try.prog.cellsOf 27 = 105 by kernel_rfl] at g1
  rw [show Try.prog.cellsOf 39 = 106 by kernel_rfl] at hl
  have hs : 1 < xs.length := by rw [hxl]; exact (Array.getElem?_eq_some_iff.1 h1).1
  rw [List.getElem?_eq_getElem (by omega)] at g0
  rw [List.getElem?_eq_getElem hs] at g1
  obtain ⟨z, hz, _, hw⟩ := DataW.trod_int Try.underlying22 g0
  obtain ⟨q, rfl⟩ := min_unsigned isU32 hw
  obtain ⟨l, hll, hle⟩ := trod_arr_words Try.underlying27 Try.underlying5 isU8 (by kernel_rfl) (by kernel_rfl) g1
  refine ⟨(q, l), hll, ?_⟩
  cases cs with
  | nil => cases hl
  | cons c cs =>
    simp at hz
    have : cs.take 105 = cs := List.take_of_length_le (by simp at hl; omega)
    rw [List.drop_succ_cons, List.drop_zero, this] at hle
    rw [hz, hle]
    rfl
set_option maxRecDepth 100000 in
theorem trod_in (fuel : Nat) (cs : List Value) (x : DataW H × List MemPlace) (h : DataW.trod enc Try.prog W 0 (fun _ => true) true fuel 55 cs = some x) : ∃ y : CE, inEl.ok y ∧ cs = inC y := by
  obtain ⟨xs, n, _, _, hl, hxl, hfs⟩ := DataW.trod_struct under_in h
  obtain ⟨f0, h0, t0, o0⟩ := field_at fields_oi_in 0 _ _ rfl
  obtain ⟨f1, h1, t1, o1⟩ := field_at fields_oi_in 1 _ _ rfl
  have g0 := hfs 0 f0 h0
  have g1 := hfs 1 f1 h1
  rw [t0, o0, show Try.prog.cellsOf 22 = 1 by kernel_rfl] at g0
  rw [t1, o1, show Try.prog.cellsOf 9 = 1 by kernel_rfl] at g1
  rw [show Try.prog.cellsOf 55 = 2 by kernel_rfl] at hl
  have hs : 1 < xs.length := by rw [hxl]; exact (Array.getElem?_eq_some_iff.1 h1).1
  rw [List.getElem?_eq_getElem (by omega)] at g0
  rw [List.getElem?_eq_getElem hs] at g1
  obtain ⟨z, hz, _, hw⟩ := DataW.trod_int Try.underlying22 g0
  obtain ⟨q, rfl⟩ := min_unsigned isU32 hw
  obtain ⟨s, hs', _, hsz⟩ := DataW.trod_string Try.underlying9 g1
  match cs, hl with
  | [c0, c1], _ =>
    simp at hz hs'
    refine ⟨(q, bytesS s), ?_, by rw [hz, hs']; show _ = [_, Value.string (strB (bytesS s))]; rw [strB_bytesS]⟩
    show (bytesS s).length ≤ 9223372036854775807
    rw [← strB_size, strB_bytesS]
    unfold maxLen at hsz
    omega
set_option maxRecDepth 100000 in
theorem open_cv {r : Reach} {b0 : Nat} {v : Value} {d : DataW H} {ps : List MemPlace} (hval : Value.okWide Try.prog W r b0 26 v) (hd : DataW.Trod enc Try.prog W 0 (fun _ => true) true 26 v d ps) :
    ∃ c : Cv, ArgC W v c ∧ c.outs.length ≤ 9223372036854775807 ∧ c.held.length ≤ 9223372036854775807 := by
  obtain ⟨cs, rfl, hl, hc⟩ := okWide_cells (ts := [22, 23, 3, 22, 24]) Try.underlying26 rfl (by kernel_rfl) (by kernel_rfl) hval
  match cs, hl with
  | [v0, v1, v2, v3, v4], _ =>
    obtain ⟨nx, rfl⟩ := cell_word (n := 32) Try.underlying22 isU32 (hc 0 v0 22 rfl rfl)
    obtain ⟨tn, rfl, _⟩ := cell_i64 Try.underlying3 (hc 2 v2 3 rfl rfl)
    obtain ⟨dl, rfl⟩ := cell_word (n := 32) Try.underlying22 isU32 (hc 3 v3 22 rfl rfl)
    obtain ⟨fuel, hf⟩ := hd
    obtain ⟨xs, n, _, hx, _, hxl, hfs⟩ := DataW.trod_struct under_cv hf
    obtain ⟨f1, h1, t1, o1⟩ := field_at fields_oi_cv 1 _ _ rfl
    obtain ⟨f4, h4, t4, o4⟩ := field_at fields_oi_cv 4 _ _ rfl
    have g1 := hfs 1 f1 h1
    have g4 := hfs 4 f4 h4
    rw [t1, o1, show Try.prog.cellsOf 23 = 1 by kernel_rfl] at g1
    rw [t4, o4, show Try.prog.cellsOf 24 = 1 by kernel_rfl] at g4
    have hs4 : 4 < xs.length := by rw [hxl]; exact (Array.getElem?_eq_some_iff.1 h4).1
    rw [List.getElem?_eq_getElem (by omega)] at g1
    rw [List.getElem?_eq_getElem hs4] at g4
    have g1' : DataW.trod enc Try.prog W 0 (fun _ => true) true n 23 [v1] = some xs[1] := by simpa [Value.cells] using g1
    have g4' : DataW.trod enc Try.prog W 0 (fun _ => true) true n 24 [v4] = some xs[4] := by simpa [Value.cells] using g4
    obtain ⟨A, cap, lo, rfl, a1, a2, _, a4, a5⟩ := open_cells (E := CE) Try.underlying23 106 (by kernel_rfl) outC outEl.ok outEl.len trod_out g1'
    obtain ⟨A', cap', li, rfl, b1, b2, _, b4, b5⟩ := open_cells (E := CE) Try.underlying24 2 (by kernel_rfl) inC inEl.ok inEl.len trod_in g4'
    unfold maxLen at a2 b2
    exact ⟨⟨nx, lo, tn, dl, li⟩, ⟨_, _, rfl, ⟨A, cap, rfl, a1, a4, a5⟩, ⟨A', cap', rfl, b1, b4, b5⟩⟩, by show lo.length ≤ _; omega, by show li.length ≤ _; omega⟩
end
end Go.Proofs.Ytjghhbollgggoaa
