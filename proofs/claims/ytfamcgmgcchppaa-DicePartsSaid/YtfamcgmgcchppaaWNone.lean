/- Dice that are not there. -/
import Derived.Test.YtfamcgmgcchppaaDiOne
namespace Go.Proofs.Ytfamcgmgcchppaa
open Go.RowKit
set_option linter.unusedVariables false
set_option linter.unusedSimpArgs false
theorem wpList_load_row_g {P : Program} {ops : Array Oper} {rest : List Oper} {o : Oper} {a : Act} {w : World} {Q : Exit → Act → World → Prop} (hw : Region.wanted o (yielded ops a.tmps) = true) (ty : TypeId) (x : Operand) (ho : o.op = .load ty x)
    (g : Nat) (hx : a.eval x = .pointer (some ⟨g, 0, none⟩)) (t : TypeId) (cs : Array Value) (fr : Nat × Nat) (d : TypeDesc) (hg : w.heap[g]? = some (.cells cs t fr))
    (hu : P.underlying ty = some d) (hd : (match d with | .struct _ | .array _ _ => true | _ => false) = true) (hi : (P.info? ty).map (·.size) = some cs.size)
    (h : wpList P ops Q rest (a.put o.dst (.agg cs)) w) : wpList P ops Q (o :: rest) a w := by
  refine wpList_step fun K hK => ?_
  rw [if_pos hw]
  exact wp_load_row ty x ho g hx t cs fr d hg hu hd hi (hK _ _ h)
theorem wpList_build_g {P : Program} {ops : Array Oper} {rest : List Oper} {o : Oper} {a : Act} {w : World} {Q : Exit → Act → World → Prop} (hw : Region.wanted o (yielded ops a.tmps) = true) (t : TypeId) (parts : Array (Nat × Operand)) (ho : o.op = .build t parts) (v : Value) (vs : Array (Nat × Value)) (hrun : ∀ wx, (Instr.build t vs).run P wx = .ok v wx) (hvs : (parts.map fun p => (p.1, a.eval p.2)) = vs) (h : wpList P ops Q rest (a.put o.dst v) w) : wpList P ops Q (o :: rest) a w := by
  refine wpList_step fun K hK => ?_
  rw [if_pos hw]
  subst hvs
  unfold Oper.wp execOp
  simp only [ho, Sem.run_bind, hrun, Result.andThen_ok, Sem.run_pure]
  exact hK _ _ h
theorem keyEq (w : World) : (binOp .eql 41 (.agg (encs .u8 z32d)) (.agg (encs .u8 z32d))).run Try.prog w = .ok (.bool true) w := by
  rw [run_eql_encs w 41 5 .u8 32 Try.underlying41 Try.underlying5 (by kernel_rfl) z32d z32d rfl rfl]
  simp
set_option maxRecDepth 100000 in
set_option maxHeartbeats 4000000 in
theorem none_walk (n : Int) (w : World) :
    Calls Try.prog 7 #[.int .i64 n] w fun e w' => e = .returned (.bool true) ∧ Below w.heap.size w w' := by
  go_enter Try.func7, Try.ntmps7
  go_wp2_with fail
  refine (wakes_any w).mono ?_
  rintro e w1 ⟨rfl, hb⟩
  go_wp2_with fail
  refine (dbytes_nil _ w1).mono ?_
  rintro e w2 ⟨rfl, rfl⟩
  go_wp2_with fail
  refine (dbelow_nil _ w2).mono ?_
  rintro e w1 ⟨rfl, rfl⟩
  go_wp2_with fail
  refine (dorder_nil _ w1).mono ?_
  rintro e w2 ⟨rfl, rfl⟩
  go_wp2_with fail
  refine (dkey_nil w2).mono ?_
  rintro e w1 ⟨rfl, hn⟩
  replace hb := hb.trans (hn.mono hb.size)
  clear hn
  obtain ⟨w3, hw3⟩ : ∃ w3, w3 = w1.alloc (.cells #[Value.int .u8 0, Value.int .u8 0, Value.int .u8 0, Value.int .u8 0, Value.int .u8 0, Value.int .u8 0, Value.int .u8 0, Value.int .u8 0, Value.int .u8 0, Value.int .u8 0, Value.int .u8 0, Value.int .u8 0, Value.int .u8 0, Value.int .u8 0, Value.int .u8 0, Value.int .u8 0, Value.int .u8 0, Value.int .u8 0, Value.int .u8 0, Value.int .u8 0, Value.int .u8 0, Value.int .u8 0, Value.int .u8 0, Value.int .u8 0, Value.int .u8 0, Value.int .u8 0, Value.int .u8 0, Value.int .u8 0, Value.int .u8 0, Value.int .u8 0, Value.int .u8 0, Value.int .u8 0] 41) := ⟨_, rfl⟩
  obtain ⟨g, hg⟩ : ∃ g, g = w1.heap.size := ⟨_, rfl⟩
  have hB : Blk w3 g (encs .u8 z32d) 41 := by rw [hw3, hg]; exact Blk.new _ _ _
  have hb3 : Below w.heap.size w w3 := by rw [hw3]; exact hb.trans (((Below.refl _ _).alloc (Nat.le_refl _) _).mono hb.size)
  have hgw : w.heap.size ≤ g := by rw [hg]; exact hb.size
  have HB3 := Lib.hid (hB.row (encs .u8 z32d))
  have HS := Lib.hid (below_setRow hb3 hgw (encs .u8 z32d))
  have HW := Lib.hid hw3
  have HG := Lib.hid hg
  clear hw3 hg hb
  go_wp2_with (first | (refine wpList_store_row rfl 41 _ _ rfl g _ (by rw [HG.out]; rfl) rfl 41 _ (by rw [HW.out] at hB; exact hB) (by rw [encs_size]; exact sizeKeyD) rfl (encs_one _ _) ?_) | fail)
  rw [← HW.out, ← HG.out]
  have hB4 := HB3.out
  have hb4 := HS.out
  clear HB3 HS HW HG hB hb3 hgw
  generalize w3.setRow g (encs .u8 z32d) = w4 at *
  refine (dfork_nil _ w4).mono ?_
  rintro e w1 ⟨rfl, rfl⟩
  have hke := keyEq
  go_wp2_with (first | (refine wpList_load_row_g (P := Try.prog) rfl 41 _ rfl g rfl 41 _ (0, 0) _ hB4 Try.underlying41 rfl (by rw [encs_size]; exact sizeKeyD) ?_) | (refine wpList_build_g (P := Try.prog) rfl 41 _ rfl (.agg (encs .u8 z32d)) _ key0 (by simp) ?_) | fail)
  refine (dtaken_nil w1).mono ?_
  rintro e w4 ⟨rfl, rfl⟩
  go_wp2_with fail
  go_ret
  exact ⟨rfl, hb4⟩
end Go.Proofs.Ytfamcgmgcchppaa
