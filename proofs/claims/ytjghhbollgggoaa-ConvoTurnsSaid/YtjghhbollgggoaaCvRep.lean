/- Conversations: plain, and which values read as them; their parts held against each other. -/
import Derived.Test.YtjghhbollgggoaaEl
import Derived.Test.YtjghhbollgggoaaStr
namespace Go.Proofs.Ytjghhbollgggoaa
open Go.RowKit
set_option linter.unusedVariables false
set_option linter.unusedSimpArgs false
/-- A number and bytes: a message that is not acked, a text that was taken ahead. -/
abbrev CE := BitVec 32 × List (BitVec 8)
def outC (x : CE) : List Value := .int .u32 (wb x.1) :: encL .u8 x.2
def inC (x : CE) : List Value := [.int .u32 (wb x.1), .string (strB x.2)]
def z105 : List (BitVec 8) := List.replicate 105 0
theorem outT : ElemT Try.prog 23 39 (.agg (outC (0, z105)).toArray) 106 112 := ⟨Try.underlying23, by kernel_rfl, by kernel_rfl, by omega, by omega⟩
theorem inT : ElemT Try.prog 24 55 (.agg (inC (0, [])).toArray) 2 24 := ⟨Try.underlying24, by kernel_rfl, by kernel_rfl, by omega, by omega⟩
theorem zeroOut (w : World) : (zeroValue 39).run Try.prog w = .ok (.agg (outC (0, z105)).toArray) w := by kernel_rfl
theorem zeroIn (w : World) : (zeroValue 55).run Try.prog w = .ok (.agg (inC (0, [])).toArray) w := by kernel_rfl
def outEl : El Try.prog CE where
  t := 23
  e := 39
  z := .agg (outC (0, z105)).toArray
  size := 106
  bytes := 112
  T := outT
  f := outC
  ok := fun x => x.2.length = 105
  len := fun x hx => by simp [outC, encL_length, hx]
  one := fun x _ u hu => by
    rcases List.mem_cons.1 hu with rfl | h
    · rfl
    · exact encL_one _ _ u h
def inEl : El Try.prog CE where
  t := 24
  e := 55
  z := .agg (inC (0, [])).toArray
  size := 2
  bytes := 24
  T := inT
  f := inC
  ok := fun x => x.2.length ≤ 9223372036854775807
  len := fun x _ => rfl
  one := fun x _ u hu => by
    simp only [inC, List.mem_cons, List.not_mem_nil, or_false] at hu
    rcases hu with rfl | rfl <;> rfl
theorem sizeOut : (Try.prog.info? 39).map (·.size) = some 106 := by kernel_rfl
theorem sizeIn : (Try.prog.info? 55).map (·.size) = some 2 := by kernel_rfl
theorem sizeCv : (Try.prog.info? 26).map (·.size) = some 5 := by kernel_rfl
theorem outC_length (x : CE) (h : x.2.length = 105) : (outC x).length = 106 := by simp [outC, encL_length, h]
/-- A conversation. -/
structure Cv where
  nx : BitVec 32
  outs : List CE
  turn : Int
  dl : BitVec 32
  held : List CE
def cvA (c : Cv) (vo vi : Value) : Array Value := #[.int .u32 (wb c.nx), vo, .int .i64 c.turn, .int .u32 (wb c.dl), vi]
def ArgC (w : World) (v : Value) (c : Cv) : Prop := ∃ vo vi, v = .agg (cvA c vo vi) ∧ ArgE outEl w vo c.outs ∧ ArgE inEl w vi c.held
theorem ArgC.below {w w' : World} {v : Value} {c : Cv} (h : ArgC w v c) (hb : Below w.heap.size w w') : ArgC w' v c :=
  let ⟨vo, vi, h1, h2, h3⟩ := h
  ⟨vo, vi, h1, h2.below hb, h3.below hb⟩
theorem ArgC.drew {w : World} {v : Value} {c : Cv} (h : ArgC w v c) : ArgC w.drew v c := h
/-- A value that owns its lists. -/
def OwnC (w : World) (base : Nat) (v : Value) (c : Cv) : Prop := ∃ vo vi, v = .agg (cvA c vo vi) ∧ OwnE outEl w base vo c.outs ∧ OwnE inEl w base vi c.held
theorem OwnC.arg {w : World} {base : Nat} {v : Value} {c : Cv} (h : OwnC w base v c) : ArgC w v c :=
  let ⟨vo, vi, h1, h2, h3⟩ := h
  ⟨vo, vi, h1, h2.arg, h3.arg⟩
theorem OwnC.below {w w' : World} {base : Nat} {v : Value} {c : Cv} (h : OwnC w base v c) (hb : Below w.heap.size w w') : OwnC w' base v c :=
  let ⟨vo, vi, h1, h2, h3⟩ := h
  ⟨vo, vi, h1, h2.below hb, h3.below hb⟩
theorem OwnC.base {w : World} {base base' : Nat} {v : Value} {c : Cv} (h : OwnC w base v c) (hb : base' ≤ base) : OwnC w base' v c :=
  let ⟨vo, vi, h1, h2, h3⟩ := h
  ⟨vo, vi, h1, h2.base hb, h3.base hb⟩
def cv0 : Cv := ⟨0, [], 0, 0, []⟩
def cvZ : Array Value := #[.int .u32 0, .slice none 0 0, .int .i64 0, .int .u32 0, .slice none 0 0]
theorem OwnC.zero (w : World) (base : Nat) : OwnC w base (.agg cvZ) cv0 := ⟨.slice none 0 0, .slice none 0 0, rfl, OwnE.nil _ _, OwnE.nil _ _⟩
/-! ### '==' of the parts -/
theorem eqin_arr (d : Nat) (l m : List (BitVec 8)) (hl : l.length = 105) (hm : m.length = 105) (w : World) : (Op.equalIn (d + 2) 27 (.agg (encs .u8 l)) (.agg (encs .u8 m))).run Try.prog w = .ok (l == m) w :=
  run_equalIn_encs w d _ 5 .u8 105 Try.underlying27 Try.underlying5 (by kernel_rfl) l m hl hm
theorem pair_beq {n : Nat} {α : Type} [BEq α] [LawfulBEq α] (a b : BitVec n) (x y : α) : ((a, x) == (b, y)) = (wb a == wb b && x == y) := by
  show ((a == b) && (x == y)) = _
  congr 1
  rw [Bool.eq_iff_iff]
  simp [wb_inj]
theorem fields_out : (Try.prog.fieldsOf 39).toList.map (fun f => (f.name == "_", f.type, f.offset)) = [(false, 22, 0), (false, 27, 1)] := by kernel_rfl
theorem fields_in : (Try.prog.fieldsOf 55).toList.map (fun f => (f.name == "_", f.type, f.offset)) = [(false, 22, 0), (false, 9, 1)] := by kernel_rfl
theorem eqFields_two {P : Program} {d : Nat} {xs ys : Array Value} {fs : List Field} {t0 t1 : TypeId} {o0 o1 : Nat} (hf : fs.map (fun f => (f.name == "_", f.type, f.offset)) = [(false, t0, o0), (false, t1, o1)]) {a0 b0 a1 b1 : Value} {r0 r1 : Bool}
    (h1 : ∀ w, (part t0 xs o0).run P w = .ok a0 w) (h2 : ∀ w, (part t0 ys o0).run P w = .ok b0 w) (h3 : ∀ w, (Op.equalIn d t0 a0 b0).run P w = .ok r0 w)
    (h4 : ∀ w, (part t1 xs o1).run P w = .ok a1 w) (h5 : ∀ w, (part t1 ys o1).run P w = .ok b1 w) (h6 : ∀ w, (Op.equalIn d t1 a1 b1).run P w = .ok r1 w) (w : World) :
    (Op.eqFields d xs ys fs).run P w = .ok (r0 && r1) w := by
  obtain ⟨f0, f1, rfl⟩ : ∃ f0 f1, fs = [f0, f1] := by
    have := congrArg List.length hf
    simp at this
    match fs, this with
    | [f0, f1], _ => exact ⟨f0, f1, rfl⟩
  · simp only [List.map_cons, List.map_nil, List.cons.injEq, Prod.mk.injEq, and_true, beq_eq_false_iff_ne] at hf
    obtain ⟨⟨n0, rfl, rfl⟩, n1, rfl, rfl⟩ := hf
    rw [Op.eqFields, if_pos n0]
    simp only [Sem.run_bind, h1, h2, h3, Result.andThen_ok]
    cases r0 with
    | false => simp
    | true =>
      simp only [Bool.not_true, Bool.false_eq_true, if_false, Bool.true_and]
      rw [Op.eqFields, if_pos n1]
      simp only [Sem.run_bind, h4, h5, h6, Result.andThen_ok]
      cases r1 <;> simp [Op.eqFields]
theorem part_out0 (x : CE) (w : World) : (part 22 (outC x).toArray 0).run Try.prog w = .ok (.int .u32 (wb x.1)) w := run_part_cell (P := Try.prog) 22 .u32 Try.underlying22 [] (encL .u8 x.2) (.int .u32 (wb x.1)) w
theorem part_out1 (x : CE) (h : x.2.length = 105) (w : World) : (part 27 (outC x).toArray 1).run Try.prog w = .ok (.agg (encs .u8 x.2)) w := by
  have := run_part_agg (P := Try.prog) 27 _ Try.underlying27 rfl 105 (by kernel_rfl) [.int .u32 (wb x.1)] (encL .u8 x.2) [] (by rw [encL_length, h]) w
  rw [List.append_nil] at this
  exact this
theorem eqin_out (d : Nat) (x y : CE) (hx : x.2.length = 105) (hy : y.2.length = 105) (w : World) : (Op.equalIn (d + 3) 39 (.agg (outC x).toArray) (.agg (outC y).toArray)).run Try.prog w = .ok (x == y) w := by
  rw [run_equalIn_struct w (d + 2) _ _ _ (by kernel_rfl) (by kernel_rfl), show (x == y) = (wb x.1 == wb y.1 && x.2 == y.2) from pair_beq x.1 y.1 x.2 y.2]
  exact eqFields_two fields_out (part_out0 x) (part_out0 y) (fun w => run_equalIn_int w (d + 1) _ .u32 .u32 _ _ Try.underlying22) (part_out1 x hx) (part_out1 y hy) (fun w => eqin_arr d x.2 y.2 hx hy w) w
theorem part_str (A C : List Value) (v : Value) (w : World) : (part 9 (A ++ v :: C).toArray A.length).run Try.prog w = .ok v w := by
  have hagg : (isAgg 9).run Try.prog w = .ok false w := by
    unfold isAgg
    rw [Sem.run_bind, run_underlying Try.underlying9 w]
    rfl
  simp [part, Sem.run_bind, hagg]
theorem eqin_in (d : Nat) (x y : CE) (w : World) : (Op.equalIn (d + 3) 55 (.agg (inC x).toArray) (.agg (inC y).toArray)).run Try.prog w = .ok (x == y) w := by
  rw [run_equalIn_struct w (d + 2) _ _ _ (by kernel_rfl) (by kernel_rfl), show (x == y) = (wb x.1 == wb y.1 && x.2 == y.2) from pair_beq x.1 y.1 x.2 y.2]
  refine eqFields_two fields_in (fun w => run_part_cell (P := Try.prog) 22 .u32 Try.underlying22 [] [.string (strB x.2)] (.int .u32 (wb x.1)) w) (fun w => run_part_cell (P := Try.prog) 22 .u32 Try.underlying22 [] [.string (strB y.2)] (.int .u32 (wb y.1)) w) (fun w => run_equalIn_int w (d + 1) _ .u32 .u32 _ _ Try.underlying22)
    (fun w => part_str [.int .u32 (wb x.1)] [] (.string (strB x.2)) w) (fun w => part_str [.int .u32 (wb y.1)] [] (.string (strB y.2)) w) (fun w => ?_) w
  rw [run_equalIn_string w (d + 1) _ _ _ Try.underlying9, strB_beq]
theorem neq_out (x y : CE) (hx : x.2.length = 105) (hy : y.2.length = 105) (w : World) : (binOp .neq 39 (.agg (outC x).toArray) (.agg (outC y).toArray)).run Try.prog w = .ok (.bool (!(x == y))) w := by
  rw [run_neq_struct, show (10000 : Nat) = 9997 + 3 from rfl, eqin_out 9997 x y hx hy]
  rfl
theorem neq_in (x y : CE) (w : World) : (binOp .neq 55 (.agg (inC x).toArray) (.agg (inC y).toArray)).run Try.prog w = .ok (.bool (!(x == y))) w := by
  rw [run_neq_struct, show (10000 : Nat) = 9997 + 3 from rfl, eqin_in 9997 x y]
  rfl
end Go.Proofs.Ytjghhbollgggoaa
