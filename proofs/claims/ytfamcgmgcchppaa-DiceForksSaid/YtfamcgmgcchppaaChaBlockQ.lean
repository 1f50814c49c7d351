/- The closure of chacha.Block: a quarter of the words at four unlike places of an array. -/
import Derived.Test.YtfamcgmgcchppaaMix
import Derived.Test.YtfamcgmgcchppaaMem
import Derived.Test.YtfamcgmgcchppaaChaQuarter
namespace Go.Proofs.Ytfamcgmgcchppaa
open Go.RowKit
set_option maxRecDepth 100000 in
set_option maxHeartbeats 1600000 in
theorem blockq_any (a b c d : Nat) (g ty : Nat) (l : List (BitVec 32)) (w : World) (hl : l.length = 16) (ha : a < 16) (hb : b < 16) (hc : c < 16) (hd : d < 16) (hG : Blk w g (encs .u32 l) ty)
   (hab : a ≠ b) (hac : a ≠ c) (had : a ≠ d) (hbc : b ≠ c) (hbd : b ≠ d) (hcd : c ≠ d) :
   Calls Try.prog 50 #[.int .i64 a, .int .i64 b, .int .i64 c, .int .i64 d, .pointer (some ⟨g, 0, none⟩)] w fun e w' => e = .returned (.tuple #[]) ∧ Blk w' g (encs .u32 (qset l a b c d)) ty ∧ Upd g w w' := by
  have ha0 : (a : Int) < 16 := by omega
  have hb0 : (b : Int) < 16 := by omega
  have hc0 : (c : Int) < 16 := by omega
  have hd0 : (d : Int) < 16 := by omega
  generalize hq : qr (l.getD a 0) (l.getD b 0) (l.getD c 0) (l.getD d 0) = q
  have HQ : Hid (qset l a b c d = (((l.set a q.a).set b q.b).set c q.c).set d q.d) := by subst hq; rfl
  have HQ2 : Hid (qr (l.getD a 0) (l.getD b 0) (l.getD c 0) (l.getD d 0) = q) := hq
  clear hq
  have ca := hG.word a (by omega)
  have cb := hG.word b (by omega)
  have cc := hG.word c (by omega)
  have cd := hG.word d (by omega)
  have HL : Hid (l.length = 16) := hl
  clear hl
  generalize l.getD a 0 = va at HQ2 ca
  generalize l.getD b 0 = vb at HQ2 cb
  generalize l.getD c 0 = vc at HQ2 cc
  generalize l.getD d 0 = vd at HQ2 cd
  go_enter Try.func50, Try.ntmps50
  refine mix_start (fun w' => Below w.heap.size w w') (List.range 30) [16, 23, 25, 27, 29] [6, 9, 12, 15] [23, 25, 27, 29] (by kernel_rfl) (by kernel_rfl) (fun d _ _ _ _ h => by cases d <;> exact h) (Below.refl _ _).drew ?_
  repeat (refine mix_pure rfl rfl (fun K hK => ?_); go_simp; refine hK _ ?_; clear hK K)
  refine mix_read (.int .u32 (wb va)) rfl rfl rfl rfl (fun w' hS => ?_) ?_
  · have hc := below_cell hS ca
    go_simp
  repeat (refine mix_pure rfl rfl (fun K hK => ?_); go_simp; refine hK _ ?_; clear hK K)
  refine mix_read (.int .u32 (wb vb)) rfl rfl rfl rfl (fun w' hS => ?_) ?_
  · have hc := below_cell hS cb
    go_simp
  repeat (refine mix_pure rfl rfl (fun K hK => ?_); go_simp; refine hK _ ?_; clear hK K)
  refine mix_read (.int .u32 (wb vc)) rfl rfl rfl rfl (fun w' hS => ?_) ?_
  · have hc := below_cell hS cc
    go_simp
  repeat (refine mix_pure rfl rfl (fun K hK => ?_); go_simp; refine hK _ ?_; clear hK K)
  refine mix_read (.int .u32 (wb vd)) rfl rfl rfl rfl (fun w' hS => ?_) ?_
  · have hc := below_cell hS cd
    go_simp
  repeat (refine mix_pure rfl rfl (fun K hK => ?_); go_simp; refine hK _ ?_; clear hK K)
  refine mix_eff rfl rfl (fun K hK => ?_)
  go_simp
  refine (quarter_any _ _ _ _ _).mono ?_
  rintro e w' ⟨rfl, rfl⟩
  rw [HQ2.out]
  refine hK _ _ (fun _ h => h) ?_
  clear hK K ca cb cc cd HQ2
  have hU : Upd g w w.drew := (Upd.refl _ _).drew
  replace hG : Blk w.drew g (encs .u32 l) ty := hG
  generalize w.drew = w1 at *
  repeat (refine mix_pure rfl rfl (fun K hK => ?_); go_simp; refine hK _ ?_; clear hK K)
  refine mix_ds rfl rfl rfl (fun K hK => ?_)
  have h1 := hG.word a (by rw [HL.out]; omega)
  have h2 := hG.frozen a
  go_simp
  refine hK _ _ ?_
  clear hK K h1 h2
  replace hU := hU.setCell a (.int .u32 (wb q.a))
  replace hG := hG.put a q.a
  generalize w1.setCell ⟨g, a, none⟩ (.int .u32 (wb q.a)) = w2 at *
  repeat (refine mix_pure rfl rfl (fun K hK => ?_); go_simp; refine hK _ ?_; clear hK K)
  refine mix_ds rfl rfl rfl (fun K hK => ?_)
  have h1 := hG.word b (by rw [List.length_set, HL.out]; omega)
  have h2 := hG.frozen b
  go_simp
  refine hK _ _ ?_
  clear hK K h1 h2
  replace hU := hU.setCell b (.int .u32 (wb q.b))
  replace hG := hG.put b q.b
  generalize w2.setCell ⟨g, b, none⟩ (.int .u32 (wb q.b)) = w3 at *
  repeat (refine mix_pure rfl rfl (fun K hK => ?_); go_simp; refine hK _ ?_; clear hK K)
  refine mix_ds rfl rfl rfl (fun K hK => ?_)
  have h1 := hG.word c (by rw [List.length_set, List.length_set, HL.out]; omega)
  have h2 := hG.frozen c
  go_simp
  refine hK _ _ ?_
  clear hK K h1 h2
  replace hU := hU.setCell c (.int .u32 (wb q.c))
  replace hG := hG.put c q.c
  generalize w3.setCell ⟨g, c, none⟩ (.int .u32 (wb q.c)) = w4 at *
  repeat (refine mix_pure rfl rfl (fun K hK => ?_); go_simp; refine hK _ ?_; clear hK K)
  refine mix_ds rfl rfl rfl (fun K hK => ?_)
  have h1 := hG.word d (by rw [List.length_set, List.length_set, List.length_set, HL.out]; omega)
  have h2 := hG.frozen d
  go_simp
  refine hK _ _ ?_
  clear hK K h1 h2
  replace hU := hU.setCell d (.int .u32 (wb q.d))
  replace hG := hG.put d q.d
  generalize w4.setCell ⟨g, d, none⟩ (.int .u32 (wb q.d)) = w5 at *
  refine mix_nil ?_
  rw [← HQ.out] at hG
  go_end0
  exact ⟨rfl, hG, hU⟩
end Go.Proofs.Ytfamcgmgcchppaa
