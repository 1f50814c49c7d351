/- ConvoSame walked (printed by genwsame.py). -/
import Derived.Test.YtjghhbollgggoaaCvShort
import Derived.Test.YtjghhbollgggoaaCvWakes
import Derived.Test.YtjghhbollgggoaaCvRSame
namespace Go.Proofs.Ytjghhbollgggoaa
open Go.RowKit
set_option linter.unusedVariables false
set_option linter.unusedSimpArgs false
theorem step_load_row {P : Program} {ops : Array Oper} {o : Oper} {a : Act} {w : World} {Q : Exit → Act → World → Prop} {K : Act → World → Prop} {E : Prop} (hgd : o.guard = none) (ty : TypeId) (x : Operand) (ho : o.op = .load ty x) (g : Nat) (hx : a.eval x = .pointer (some ⟨g, 0, none⟩)) (t : TypeId) (cs : Array Value) (fr : Nat × Nat) (d : TypeDesc) (hg : w.heap[g]? = some (.cells cs t fr))
    (hu : P.underlying ty = some d) (hd : (match d with | .struct _ | .array _ _ => true | _ => false) = true) (hi : (P.info? ty).map (·.size) = some cs.size)
    (h : K (a.put o.dst (.agg cs)) w) : if Region.wanted o (yielded ops a.tmps) = true then Oper.wp P o a w K Q else E := by
  have hw : Region.wanted o (yielded ops a.tmps) = true := by simp [Region.wanted, hgd]
  rw [if_pos hw]
  exact wp_load_row ty x ho g hx t cs fr d hg hu hd hi h
theorem RoomC.upd {w w' : World} {base g : Nat} {u : Value} {c : Cv} (h : RoomC w base u c) (hu : Upd g w w') (hg : g < base) : RoomC w' base u c := by
  obtain ⟨vo, vi, rfl, ⟨g, p, rfl, h1⟩, ⟨g', p', rfl, h2⟩⟩ := h
  exact ⟨_, _, rfl, ⟨g, p, rfl, h1.upd hu hg⟩, ⟨g', p', rfl, h2.upd hu hg⟩⟩
theorem RoomC.form {w : World} {base : Nat} {u : Value} {c : Cv} (h : RoomC w base u c) : ∃ u1 u2, u = .agg (cvA c u1 u2) ∧ (cvA c u1 u2).all (·.oneCell') = true := by
  obtain ⟨vo, vi, rfl, ⟨g, p, rfl, h1⟩, ⟨g', p', rfl, h2⟩⟩ := h
  exact ⟨_, _, rfl, by simp [cvA, Value.oneCell']⟩
theorem shortC_len (c : Cv) : (shortC c).outs.length ≤ 8 ∧ (shortC c).held.length ≤ 8 := by
  constructor
  · show (c.outs.take 8).length ≤ _; rw [List.length_take]; omega
  · show (c.held.take 8).length ≤ _; rw [List.length_take]; omega
set_option maxRecDepth 100000 in
set_option maxHeartbeats 8000000 in
theorem csame_walk {a b : Cv} {v1 v2 : Value} (w : World) (h1 : ArgC w v1 a) (h2 : ArgC w v2 b) (hn1 : a.outs.length ≤ 9223372036854775807) (hm1 : a.held.length ≤ 9223372036854775807) (hn2 : b.outs.length ≤ 9223372036854775807) (hm2 : b.held.length ≤ 9223372036854775807) :
    Calls Try.prog 4 #[v1, v2] w fun e w' => e = .returned (.bool true) ∧ Below w.heap.size w w' := by
  have HSA := Lib.hid (fun wx (hb : Below w.heap.size w wx) => short_any wx (h1.below hb) hn1 hm1)
  have HSB := Lib.hid (fun wx (hb : Below w.heap.size w wx) => short_any wx (h2.below hb) hn2 hm2)
  have HLA := Lib.hid (shortC_len a)
  have HSS : Hid (sameB (shortC a) (shortC a) = true) := (sameB_iff _ _).2 rfl
  obtain ⟨va1, va2, rfl, -, -⟩ := h1
  obtain ⟨vb1, vb2, rfl, -, -⟩ := h2
  clear hn1 hm1 hn2 hm2
  have hb : Below w.heap.size w ((w.alloc (.cells (cvA a va1 va2) 26)).alloc (.cells (cvA b vb1 vb2) 26)) := ((Below.refl _ _).alloc (Nat.le_refl _) _).alloc (by simp) _
  have mA := (Blk.new w (cvA a va1 va2) 26).alloc (.cells (cvA b vb1 vb2) 26)
  have mB := Blk.new (w.alloc (.cells (cvA a va1 va2) 26)) (cvA b vb1 vb2) 26
  rw [show (w.alloc (.cells (cvA a va1 va2) 26)).heap.size = w.heap.size + 1 by simp] at mB
  go_enter Try.func4, Try.ntmps4
  go_wp2_with fail
  refine (wakes_any _).mono ?_
  rintro e x0 ⟨rfl, hn⟩
  replace mA := mA.below hn mA.lt
  replace mB := mB.below hn mB.lt
  replace hb := hb.trans (hn.mono hb.size)
  clear hn
  go_wp2_with fail
  refine mix_start (fun w' => Blk w' (w.heap.size + 1) (cvA b vb1 vb2) 26) [2, 0, 1, 3, 4, 5] [0, 1, 3, 4, 5] [2] [5] (by kernel_rfl) (by kernel_rfl) (fun d _ _ _ _ h => by cases d <;> exact h) mB.drew ?_
  replace mA := mA.drew
  replace mB := mB.drew
  replace hb := hb.drew
  generalize x0.drew = x1 at *
  have hs : (w.heap.size + 1) < x1.heap.size := mB.lt
  refine mix_load_row rfl rfl rfl rfl 26 _ rfl (w.heap.size + 1) rfl (cvA b vb1 vb2) 26 (0, 0) _ (fun w' hS => hS) Try.underlying26 rfl (by exact sizeCv) ?_
  refine mix_eff rfl rfl (fun K hK => ?_)
  refine step_load_row rfl 26 _ rfl w.heap.size rfl 26 (cvA a va1 va2) (0, 0) _ mA Try.underlying26 rfl (by exact sizeCv) ?_
  refine hK _ _ (fun _ _ => mB) ?_
  clear hK K
  refine mix_eff rfl rfl (fun K hK => ?_)
  go_simp
  refine (HSA.out _ hb).mono ?_
  rintro e x2 ⟨ua, rfl, ra, hn⟩
  obtain ⟨ua1, ua2, rfl, hoa⟩ := ra.form
  have HOA := Lib.hid hoa
  clear hoa
  have hs2 := hn.size
  replace mA := mA.below hn mA.lt
  replace mB := mB.below hn mB.lt
  replace hb := hb.trans (hn.mono hb.size)
  refine hK _ _ (fun _ _ => mB) ?_
  clear hK K hn
  refine mix_eff rfl rfl (fun K hK => ?_)
  go_simp
  refine (HSB.out _ hb).mono ?_
  rintro e x3 ⟨ub, rfl, rb, hn⟩
  obtain ⟨ub1, ub2, rfl, hob⟩ := rb.form
  have HOB := Lib.hid hob
  clear hob
  replace rb := rb.base hs2
  replace mA := mA.below hn mA.lt
  replace mB := mB.below hn mB.lt
  replace hb := hb.trans (hn.mono hb.size)
  replace ra := ra.below hn
  refine hK _ _ (fun _ _ => mB) ?_
  clear hK K hn
  refine mix_eff rfl rfl (fun K hK => ?_)
  refine step_store_rowS rfl 26 _ _ rfl w.heap.size (cvA (shortC a) ua1 ua2) rfl rfl 26 _ mA (by exact sizeCv) (by simp [cvA]) HOA.out ?_
  refine hK _ _ (fun _ _ => mB.farRow (show w.heap.size + 1 ≠ w.heap.size by omega) (cvA (shortC a) ua1 ua2)) ?_
  clear hK K
  replace mA := mA.row (cvA (shortC a) ua1 ua2)
  replace mB := mB.farRow (show w.heap.size + 1 ≠ w.heap.size by omega) (cvA (shortC a) ua1 ua2)
  replace ra := ra.upd ((Upd.refl _ _).setRow (cvA (shortC a) ua1 ua2)) (show w.heap.size < x1.heap.size by omega)
  replace rb := rb.upd ((Upd.refl _ _).setRow (cvA (shortC a) ua1 ua2)) (show w.heap.size < x1.heap.size by omega)
  replace hb := below_setRow hb (show w.heap.size ≤ w.heap.size by omega) (cvA (shortC a) ua1 ua2)
  generalize x3.setRow w.heap.size (cvA (shortC a) ua1 ua2) = x4 at *
  refine mix_ds rfl rfl rfl (fun K hK => ?_)
  refine step_store_rowS rfl 26 _ _ rfl (w.heap.size + 1) (cvA (shortC b) ub1 ub2) rfl rfl 26 _ mB (by exact sizeCv) (by simp [cvA]) HOB.out ?_
  refine hK _ _ ?_
  clear hK K
  replace mB := mB.row (cvA (shortC b) ub1 ub2)
  replace mA := mA.farRow (show w.heap.size ≠ w.heap.size + 1 by omega) (cvA (shortC b) ub1 ub2)
  replace ra := ra.upd ((Upd.refl _ _).setRow (cvA (shortC b) ub1 ub2)) (show (w.heap.size + 1) < x1.heap.size by omega)
  replace rb := rb.upd ((Upd.refl _ _).setRow (cvA (shortC b) ub1 ub2)) (show (w.heap.size + 1) < x1.heap.size by omega)
  replace hb := below_setRow hb (show w.heap.size ≤ (w.heap.size + 1) by omega) (cvA (shortC b) ub1 ub2)
  generalize x4.setRow (w.heap.size + 1) (cvA (shortC b) ub1 ub2) = x5 at *
  refine mix_nil ?_
  have HAR := Lib.hid ra.arg
  have HBR := Lib.hid rb.arg
  clear ra rb hs2
  go_wp2_with fail
  refine mix_start (fun w' => Blk w' w.heap.size (cvA (shortC a) ua1 ua2) 26 ∧ Blk w' (w.heap.size + 1) (cvA (shortC b) ub1 ub2) 26) [0, 1, 3, 4, 2, 5, 6, 7, 8, 9, 10, 11, 12, 13] [2, 5, 10, 11] [0, 1, 3, 4, 8, 9] [] (by kernel_rfl) (by kernel_rfl) (fun d _ _ _ _ h => by cases d <;> exact h) ⟨mA.drew, mB.drew⟩ ?_
  replace mA := mA.drew
  replace mB := mB.drew
  replace hb := hb.drew
  have ra : ArgC x5.drew _ _ := HAR.out
  have rb : ArgC x5.drew _ _ := HBR.out
  clear HAR HBR hs
  generalize x5.drew = x6 at *
  refine mix_load_row rfl rfl rfl rfl 26 _ rfl w.heap.size rfl (cvA (shortC a) ua1 ua2) 26 (0, 0) _ (fun w' hS => hS.1) Try.underlying26 rfl (by exact sizeCv) ?_
  refine mix_load_row rfl rfl rfl rfl 26 _ rfl (w.heap.size + 1) rfl (cvA (shortC b) ub1 ub2) 26 (0, 0) _ (fun w' hS => hS.2) Try.underlying26 rfl (by exact sizeCv) ?_
  refine mix_load_row rfl rfl rfl rfl 26 _ rfl w.heap.size rfl (cvA (shortC a) ua1 ua2) 26 (0, 0) _ (fun w' hS => hS.1) Try.underlying26 rfl (by exact sizeCv) ?_
  refine mix_load_row rfl rfl rfl rfl 26 _ rfl (w.heap.size + 1) rfl (cvA (shortC b) ub1 ub2) 26 (0, 0) _ (fun w' hS => hS.2) Try.underlying26 rfl (by exact sizeCv) ?_
  refine mix_eff rfl rfl (fun K hK => ?_)
  go_simp
  refine (same_any x6 ra rb (by have := HLA.out.1; omega) (by have := HLA.out.2; omega)).mono ?_
  rintro e x7 ⟨rfl, hn⟩
  replace mA := mA.below hn mA.lt
  replace mB := mB.below hn mB.lt
  replace hb := hb.trans (hn.mono hb.size)
  replace ra := ra.below hn
  replace rb := rb.below hn
  refine hK _ _ (fun _ _ => ⟨mA, mB⟩) ?_
  clear hK K hn
  refine mix_eff rfl rfl (fun K hK => ?_)
  go_simp
  refine (rsame_any x7 ra rb (by have := HLA.out.1; omega) (by have := HLA.out.2; omega)).mono ?_
  rintro e x8 ⟨rfl, hn⟩
  replace mA := mA.below hn mA.lt
  replace mB := mB.below hn mB.lt
  replace hb := hb.trans (hn.mono hb.size)
  replace ra := ra.below hn
  replace rb := rb.below hn
  refine hK _ _ (fun _ _ => ⟨mA, mB⟩) ?_
  clear hK K hn
  refine mix_pure rfl rfl (fun K hK => ?_); go_simp; refine hK _ ?_; clear hK K
  refine mix_pure rfl rfl (fun K hK => ?_); go_simp; refine hK _ ?_; clear hK K
  refine mix_load_row rfl rfl rfl rfl 26 _ rfl w.heap.size rfl (cvA (shortC a) ua1 ua2) 26 (0, 0) _ (fun w' hS => hS.1) Try.underlying26 rfl (by exact sizeCv) ?_
  refine mix_load_row rfl rfl rfl rfl 26 _ rfl w.heap.size rfl (cvA (shortC a) ua1 ua2) 26 (0, 0) _ (fun w' hS => hS.1) Try.underlying26 rfl (by exact sizeCv) ?_
  refine mix_eff rfl rfl (fun K hK => ?_)
  go_simp
  refine (copy_any x8 ra (by have := HLA.out.1; omega) (by have := HLA.out.2; omega)).mono ?_
  rintro e x9 ⟨uc, rfl, oc, hn⟩
  replace mA := mA.below hn mA.lt
  replace mB := mB.below hn mB.lt
  replace hb := hb.trans (hn.mono hb.size)
  replace ra := ra.below hn
  replace rb := rb.below hn
  have rc := oc.arg
  obtain ⟨uc1, uc2, rfl, -, -⟩ := id rc
  refine hK _ _ (fun _ _ => ⟨mA, mB⟩) ?_
  clear hK K hn
  refine mix_eff rfl rfl (fun K hK => ?_)
  go_simp
  refine (same_any x9 ra rc (by have := HLA.out.1; omega) (by have := HLA.out.2; omega)).mono ?_
  rintro e x10 ⟨rfl, hn⟩
  rw [HSS.out]
  replace mA := mA.below hn mA.lt
  replace mB := mB.below hn mB.lt
  replace hb := hb.trans (hn.mono hb.size)
  refine hK _ _ (fun _ _ => ⟨mA, mB⟩) ?_
  clear hK K hn
  repeat (refine mix_pure rfl rfl (fun K hK => ?_); go_simp; refine hK _ ?_; clear hK K)
  refine mix_nil ?_
  go_wp2_with fail
  go_ret
  exact ⟨rfl, hb⟩
end Go.Proofs.Ytjghhbollgggoaa
