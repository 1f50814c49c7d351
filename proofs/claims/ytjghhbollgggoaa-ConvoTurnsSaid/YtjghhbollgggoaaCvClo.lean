/- convo's clone of a conversation. -/
import Derived.Test.YtjghhbollgggoaaCvClone
namespace Go.Proofs.Ytjghhbollgggoaa
open Go.RowKit
set_option linter.unusedVariables false
set_option linter.unusedSimpArgs false
set_option maxHeartbeats 4000000 in
set_option maxRecDepth 100000 in
theorem cvclone_any {c : Cv} {v : Value} (w : World) (h : ArgC w v c) (hn : c.outs.length ≤ 1099511627776) (hm : c.held.length ≤ 1099511627776) :
    Calls Try.prog 40 #[v] w fun e w' => ∃ u, e = .returned u ∧ OwnC w' w.heap.size u c ∧ Below w.heap.size w w' := by
  obtain ⟨vo, vi, rfl, ho, hi⟩ := h
  have HO := Lib.hid ho
  have HI := Lib.hid hi
  have HN := Lib.hid hn
  have HM := Lib.hid hm
  have hb : Below w.heap.size w ((w.alloc (.cells (cvA c vo vi) 26)).alloc (.cells cvZ 26)) := ((Below.refl _ _).alloc (Nat.le_refl _) _).alloc (by simp) _
  have mb := (Blk.new w (cvA c vo vi) 26).alloc (.cells cvZ 26)
  have mr := Blk.new (w.alloc (.cells (cvA c vo vi) 26)) cvZ 26
  rw [show (w.alloc (.cells (cvA c vo vi) 26)).heap.size = w.heap.size + 1 by simp] at mr
  have hsz : ((w.alloc (.cells (cvA c vo vi) 26)).alloc (.cells cvZ 26)).heap.size = w.heap.size + 2 := by simp
  clear ho hi hn hm
  unfold cvA cvZ at *
  go_enter Try.func40, Try.ntmps40
  go_wp2_with fail
  refine mix_start (fun w' => Blk w' w.heap.size #[.int .u32 (wb c.nx), vo, .int .i64 c.turn, .int .u32 (wb c.dl), vi] 26) [0, 1, 3, 4, 2, 6, 5, 7, 8, 9] [2, 5, 7, 9] [1, 4] [7, 9] (by kernel_rfl) (by kernel_rfl) (fun d _ _ _ _ h => by cases d <;> exact h) mb.drew ?_
  replace mb := mb.drew
  replace mr := mr.drew
  replace hb := hb.drew
  have hsz2 : w.heap.size + 2 ≤ (World.drew ((w.alloc (.cells #[.int .u32 (wb c.nx), vo, .int .i64 c.turn, .int .u32 (wb c.dl), vi] 26)).alloc (.cells #[.int .u32 0, .slice none 0 0, .int .i64 0, .int .u32 0, .slice none 0 0] 26))).heap.size := Nat.le_of_eq hsz.symm
  clear hsz
  generalize World.drew ((w.alloc (.cells #[.int .u32 (wb c.nx), vo, .int .i64 c.turn, .int .u32 (wb c.dl), vi] 26)).alloc (.cells #[.int .u32 0, .slice none 0 0, .int .i64 0, .int .u32 0, .slice none 0 0] 26)) = x0 at *
  repeat (refine mix_pure rfl rfl (fun K hK => ?_); go_simp; refine hK _ ?_; clear hK K)
  refine mix_read vo rfl rfl rfl rfl (fun w' hS => ?_) ?_
  · have k5 : w'.cell? ⟨w.heap.size, 1, none⟩ = some vo := hS.cell 1
    go_simp
  repeat (refine mix_pure rfl rfl (fun K hK => ?_); go_simp; refine hK _ ?_; clear hK K)
  refine mix_read vi rfl rfl rfl rfl (fun w' hS => ?_) ?_
  · have k5 : w'.cell? ⟨w.heap.size, 4, none⟩ = some vi := hS.cell 4
    go_simp
  refine mix_eff rfl rfl (fun K hK => ?_)
  go_simp
  refine (clone_out _ (HO.out.below hb) HN.out).mono ?_
  rintro e x1 ⟨u1, rfl, o1, hn⟩
  replace o1 := o1.base hsz2
  obtain ⟨G1, p1, rfl, -⟩ := id o1.arg
  replace mb := mb.below hn mb.lt
  replace mr := mr.below hn mr.lt
  replace hb := hb.trans (hn.mono hb.size)
  have hs1 := Nat.le_trans hsz2 hn.size
  refine hK _ _ (fun _ _ => mb) ?_
  clear hK K hn
  repeat (refine mix_pure rfl rfl (fun K hK => ?_); go_simp; refine hK _ ?_; clear hK K)
  refine mix_eff rfl rfl (fun K hK => ?_)
  go_simp
  refine (clone_in _ (HI.out.below hb) HM.out).mono ?_
  rintro e x2 ⟨u2, rfl, o2, hn⟩
  replace o2 := o2.base hs1
  obtain ⟨G2, p2, rfl, -⟩ := id o2.arg
  replace o1 := o1.below hn
  replace mb := mb.below hn mb.lt
  replace mr := mr.below hn mr.lt
  replace hb := hb.trans (hn.mono hb.size)
  refine hK _ _ (fun _ _ => mb) ?_
  clear hK K hn
  have pb := mb.cell 1
  have fb := mb.frozen 1
  refine mix_ds rfl rfl rfl (fun K hK => ?_)
  go_simp
  refine hK _ _ ?_
  clear hK K pb fb
  replace mb : Blk (x2.setCell ⟨w.heap.size, 1, none⟩ (.slice G1 c.outs.length p1)) w.heap.size #[.int .u32 (wb c.nx), .slice G1 c.outs.length p1, .int .i64 c.turn, .int .u32 (wb c.dl), vi] 26 := mb.set 1 _
  replace mr := mr.farAt (by omega) 1 (.slice G1 c.outs.length p1) (g' := w.heap.size)
  replace hb := below_setCell hb (Nat.le_refl w.heap.size) 1 (.slice G1 c.outs.length p1)
  replace o1 := o1.upd ((Upd.refl _ _).setCell 1 (.slice G1 c.outs.length p1)) (show w.heap.size < w.heap.size + 2 by omega)
  replace o2 := o2.upd ((Upd.refl _ _).setCell 1 (.slice G1 c.outs.length p1)) (show w.heap.size < w.heap.size + 2 by omega)
  generalize x2.setCell ⟨w.heap.size, 1, none⟩ (.slice G1 c.outs.length p1) = x3 at *
  repeat (refine mix_pure rfl rfl (fun K hK => ?_); go_simp; refine hK _ ?_; clear hK K)
  have pb := mb.cell 4
  have fb := mb.frozen 4
  refine mix_ds rfl rfl rfl (fun K hK => ?_)
  go_simp
  refine hK _ _ ?_
  clear hK K pb fb
  replace mb : Blk (x3.setCell ⟨w.heap.size, 4, none⟩ (.slice G2 c.held.length p2)) w.heap.size (cvA c (.slice G1 c.outs.length p1) (.slice G2 c.held.length p2)) 26 := mb.set 4 _
  replace mr := mr.farAt (by omega) 4 (.slice G2 c.held.length p2) (g' := w.heap.size)
  replace hb := below_setCell hb (Nat.le_refl w.heap.size) 4 (.slice G2 c.held.length p2)
  replace o1 := o1.upd ((Upd.refl _ _).setCell 4 (.slice G2 c.held.length p2)) (show w.heap.size < w.heap.size + 2 by omega)
  replace o2 := o2.upd ((Upd.refl _ _).setCell 4 (.slice G2 c.held.length p2)) (show w.heap.size < w.heap.size + 2 by omega)
  generalize x3.setCell ⟨w.heap.size, 4, none⟩ (.slice G2 c.held.length p2) = x4 at *
  refine mix_nil ?_
  go_wp2_with (first
    | (refine wpList_load_row rfl 26 _ rfl w.heap.size rfl 26 (cvA c (.slice G1 c.outs.length p1) (.slice G2 c.held.length p2)) _ _ mb Try.underlying26 rfl (by exact sizeCv) ?_)
    | (refine wpList_store_row rfl 26 _ _ rfl (w.heap.size + 1) (cvA c (.slice G1 c.outs.length p1) (.slice G2 c.held.length p2)) rfl rfl 26 _ mr (by exact sizeCv) (by simp [cvA]) (by simp [cvA, Value.oneCell']) ?_; replace o1 := o1.upd ((Upd.refl _ _).setRow (cvA c (.slice G1 c.outs.length p1) (.slice G2 c.held.length p2))) (show w.heap.size + 1 < w.heap.size + 2 by omega); replace o2 := o2.upd ((Upd.refl _ _).setRow (cvA c (.slice G1 c.outs.length p1) (.slice G2 c.held.length p2))) (show w.heap.size + 1 < w.heap.size + 2 by omega); replace hb := below_setRow hb (show w.heap.size ≤ w.heap.size + 1 by omega) (cvA c (.slice G1 c.outs.length p1) (.slice G2 c.held.length p2)); replace mr := mr.row (cvA c (.slice G1 c.outs.length p1) (.slice G2 c.held.length p2)))
    | fail)
  refine bodyPost_ret (results_cell1 rfl _ _ (w.heap.size + 1) 26 _ _ _ rfl mr Try.underlying26 rfl (by exact sizeCv)) rfl ?_
  exact ⟨_, rfl, ⟨_, _, rfl, o1.base (by omega), o2.base (by omega)⟩, hb⟩
end Go.Proofs.Ytjghhbollgggoaa
