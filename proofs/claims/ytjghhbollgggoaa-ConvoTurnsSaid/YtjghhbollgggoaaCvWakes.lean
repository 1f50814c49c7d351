/- The law's wakes (printed by genwakes.py). -/
import Derived.Test.YtjghhbollgggoaaCvTurn
import Derived.Test.YtjghhbollgggoaaCvWants
namespace Go.Proofs.Ytjghhbollgggoaa
open Go.RowKit
set_option linter.unusedVariables false
set_option linter.unusedSimpArgs false
def b1 : List (BitVec 8) := 1 :: List.replicate 104 0
theorem build_b1 (w : World) : (Instr.build 28 #[(0, .int .u8 1)]).run Try.prog w = .ok (.agg (encs .u8 b1)) w := by kernel_rfl
def cv1 : Cv := ⟨1, [(0, b1)], 0, 0, []⟩
theorem wakeQ : queueR cv0 b1 = (cv1, 0, 0) := by
  have h1 : rightC cv0 = true := by decide
  have h2 : fullB cv0 = false := by decide
  unfold queueR
  rw [h1, if_pos rfl, h2]
  rfl
theorem wakeT : turnR cv1 = (cv1, (0, b1), 0) := by
  have h1 : rightC cv1 = true := by decide
  unfold turnR
  rw [h1, if_pos rfl]
  rfl
theorem wakeW : wantsB cv0 0 1 = true := by decide
theorem wpList_build_g {P : Program} {ops : Array Oper} {rest : List Oper} {o : Oper} {a : Act} {Q : Exit → Act → World → Prop} {w : World} (hw : Region.wanted o (yielded ops a.tmps) = true) (t : TypeId) (parts : Array (Nat × Operand)) (ho : o.op = .build t parts) (v : Value) (vs : Array (Nat × Value)) (hrun : ∀ wx, (Instr.build t vs).run P wx = .ok v wx) (hvs : (parts.map fun p => (p.1, a.eval p.2)) = vs) (h : wpList P ops Q rest (a.put o.dst v) w) : wpList P ops Q (o :: rest) a w := by
  refine wpList_step fun K hK => ?_
  rw [if_pos hw]
  subst hvs
  unfold Oper.wp execOp
  simp only [ho, Sem.run_bind, hrun, Result.andThen_ok, Sem.run_pure]
  exact hK _ _ h
set_option maxRecDepth 100000 in
set_option maxHeartbeats 8000000 in
theorem wakes_any (w : World) : Calls Try.prog 12 #[] w fun e w' => e = .returned (.bool true) ∧ Below w.heap.size w w' := by
  have HQ := Lib.hid (queue_any b1 w (OwnC.zero w 0).arg rfl (by decide) (by decide))
  rw [wakeQ] at HQ
  have HB1 : Hid (b1.length = 105) := rfl
  go_enter Try.func12, Try.ntmps12
  go_wp2_with (first | (refine wpList_build rfl 26 _ rfl (.agg cvZ) #[] build_cvZ (by simp) ?_) | (refine wpList_build rfl 28 _ rfl (.agg (encs .u8 b1)) #[(0, .int .u8 1)] build_b1 (by simp [Act.eval, Act.put]) ?_) | fail)
  refine HQ.out.mono ?_
  rintro e x1 ⟨u, rfl, ho, hb⟩
  obtain ⟨vo, vi, rfl, o1, o2⟩ := id ho
  obtain ⟨G1, p1, rfl, -⟩ := id o1.arg
  obtain ⟨G2, p2, rfl, -⟩ := id o2.arg
  have HT := Lib.hid (fun wx (hn : Below x1.heap.size x1 wx) => turn_any (c := cv1) wx (ho.arg.below hn) (by decide) (by decide))
  rw [wakeT] at HT
  clear o1 o2 ho
  have hn : Below x1.heap.size x1 (x1.alloc (.cells #[.int .u32 1, (.slice G1 1 p1), .int .i64 0, .int .u32 0, (.slice G2 0 p2)] 26)) := (Below.refl _ _).alloc (Nat.le_refl _) _
  have m1 := Blk.new x1 #[.int .u32 1, (.slice G1 1 p1), .int .i64 0, .int .u32 0, (.slice G2 0 p2)] 26
  have hb1 := hb.trans (hn.mono hb.size)
  have HA : Hid (cvA cv1 (.slice G1 1 p1) (.slice G2 0 p2) = #[.int .u32 1, (.slice G1 1 p1), .int .i64 0, .int .u32 0, (.slice G2 0 p2)]) := rfl
  rw [show cvA cv1 (.slice G1 cv1.outs.length p1) (.slice G2 cv1.held.length p2) = #[.int .u32 1, (.slice G1 1 p1), .int .i64 0, .int .u32 0, (.slice G2 0 p2)] from rfl] at HT ⊢
  simp only []
  rw [show wb (0 : BitVec 32) = 0 from rfl]
  go_wp2_with (first | (refine wpList_store_last rfl 26 _ _ rfl _ _ #[.int .u32 1, (.slice G1 1 p1), .int .i64 0, .int .u32 0, (.slice G2 0 p2)] 26 rfl rfl rfl (by exact sizeCv) rfl (by simp [Value.oneCell']) ?_; generalize hg1 : x1.heap.size = g1 at *; generalize x1.alloc (.cells #[.int .u32 1, (.slice G1 1 p1), .int .i64 0, .int .u32 0, (.slice G2 0 p2)] 26) = x2 at *) | (refine wpList_load_row rfl 26 _ rfl _ rfl 26 #[.int .u32 1, (.slice G1 1 p1), .int .i64 0, .int .u32 0, (.slice G2 0 p2)] _ _ m1 Try.underlying26 rfl (by exact sizeCv) ?_) | fail)
  refine (HT.out _ hn).mono ?_
  rintro e x3 ⟨u, rfl, ho, hn3⟩
  replace m1 := m1.below hn3 m1.lt
  replace hb1 := hb1.trans (hn3.mono hb1.size)
  obtain ⟨vo, vi, rfl, o1, o2⟩ := ho
  obtain ⟨G3, p3, rfl, -⟩ := id o1.arg
  obtain ⟨G4, p4, rfl, -⟩ := id o2.arg
  clear o1 o2 hn hn3 HT
  have hs3 := hb1.size
  have hal : Below x3.heap.size x3 ((x3.alloc (.cells #[.int .u32 0, .slice none 0 0, .int .i64 0, .int .u32 0, .slice none 0 0] 26)).alloc (.cells Try.zeroCells39 39)) := ((Below.refl _ _).alloc (Nat.le_refl _) _).alloc (by simp) _
  have mD := (Blk.new x3 #[.int .u32 0, .slice none 0 0, .int .i64 0, .int .u32 0, .slice none 0 0] 26).alloc (.cells Try.zeroCells39 39)
  have mX := Blk.new (x3.alloc (.cells #[.int .u32 0, .slice none 0 0, .int .i64 0, .int .u32 0, .slice none 0 0] 26)) Try.zeroCells39 39
  rw [show (x3.alloc (.cells #[.int .u32 0, .slice none 0 0, .int .i64 0, .int .u32 0, .slice none 0 0] 26)).heap.size = x3.heap.size + 1 by simp] at mX
  have hlt := m1.lt
  replace m1 := m1.below hal m1.lt
  replace hb1 := hb1.trans (hal.mono hb1.size)
  clear hal
  rw [show cvA (cv1, ((0, b1) : CE), (0 : Int)).1 (.slice G3 (cv1, ((0, b1) : CE), (0 : Int)).1.outs.length p3) (.slice G4 (cv1, ((0, b1) : CE), (0 : Int)).1.held.length p4) = #[.int .u32 1, (.slice G3 1 p3), .int .i64 0, .int .u32 0, (.slice G4 0 p4)] from rfl]
  go_wp2_with (first
    | (refine wpList_store_row rfl 26 _ _ rfl x3.heap.size #[.int .u32 1, (.slice G3 1 p3), .int .i64 0, .int .u32 0, (.slice G4 0 p4)] rfl rfl 26 _ mD (by exact sizeCv) rfl (by simp [Value.oneCell']) ?_; replace mD := mD.row #[.int .u32 1, (.slice G3 1 p3), .int .i64 0, .int .u32 0, (.slice G4 0 p4)]; replace mX := mX.farRow (show x3.heap.size + 1 ≠ x3.heap.size by omega) #[.int .u32 1, (.slice G3 1 p3), .int .i64 0, .int .u32 0, (.slice G4 0 p4)]; replace m1 := m1.farRow (show g1 ≠ x3.heap.size by omega) #[.int .u32 1, (.slice G3 1 p3), .int .i64 0, .int .u32 0, (.slice G4 0 p4)]; replace hb1 := below_setRow hb1 hs3 #[.int .u32 1, (.slice G3 1 p3), .int .i64 0, .int .u32 0, (.slice G4 0 p4)]; generalize World.setRow ((x3.alloc (.cells #[.int .u32 0, .slice none 0 0, .int .i64 0, .int .u32 0, .slice none 0 0] 26)).alloc (.cells Try.zeroCells39 39)) x3.heap.size #[.int .u32 1, (.slice G3 1 p3), .int .i64 0, .int .u32 0, (.slice G4 0 p4)] = x5 at *)
    | (refine wpList_store_row rfl 39 _ _ rfl (x3.heap.size + 1) (outC (0, b1)).toArray rfl rfl 39 _ mX (sizeOutC (0, b1) rfl) (by rw [zero39]; exact holdOutC ceZ (0, b1) rfl rfl) (outC_one (0, b1)) ?_; replace mX := mX.row (outC (0, b1)).toArray; replace mD := mD.farRow (show x3.heap.size ≠ x3.heap.size + 1 by omega) (outC (0, b1)).toArray; replace m1 := m1.farRow (show g1 ≠ x3.heap.size + 1 by omega) (outC (0, b1)).toArray; replace hb1 := below_setRow hb1 (show w.heap.size ≤ x3.heap.size + 1 by omega) (outC (0, b1)).toArray; generalize x5.setRow (x3.heap.size + 1) (outC (0, b1)).toArray = x6 at *; have c1 : x6.cell? ⟨g1, 0, none⟩ = some (.int .u32 1) := m1.cell 0; have cx : x6.cell? ⟨x3.heap.size + 1, 1, none⟩ = some (.int .u8 1) := mX.cell 1; have cd : x6.cell? ⟨x3.heap.size, 1, none⟩ = some (.slice G3 1 p3) := mD.cell 1)
    | (refine wpList_build_g rfl 26 _ rfl (.agg cvZ) #[] build_cvZ (by simp) ?_)
    | fail)
  refine (wants_any 0 1 _ (OwnC.zero _ 0).arg (by decide) (by decide)).mono ?_
  rintro e x7 ⟨rfl, hn⟩
  rw [wakeW]
  go_wp2_with fail
  go_ret
  exact ⟨rfl, hb1.trans (hn.mono hb1.size)⟩
end Go.Proofs.Ytjghhbollgggoaa
