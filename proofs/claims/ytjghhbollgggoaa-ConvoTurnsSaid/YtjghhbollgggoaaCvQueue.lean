/- convo's Queue (printed by genqueue.py). -/
import Derived.Test.YtjghhbollgggoaaCvCheck
import Derived.Test.YtjghhbollgggoaaCvClo
namespace Go.Proofs.Ytjghhbollgggoaa
open Go.RowKit
set_option linter.unusedVariables false
set_option linter.unusedSimpArgs false
theorem size105 : (Try.prog.info? 27).map (·.size) = some 105 := by kernel_rfl
theorem build_cvZ (w : World) : (Instr.build 26 #[]).run Try.prog w = .ok (.agg cvZ) w := by kernel_rfl
theorem build_out (q : BitVec 32) (body : List (BitVec 8)) (hb : body.length = 105) (w : World) : (Instr.build 39 #[(0, .int .u32 (wb q)), (1, .agg (encs .u8 body))]).run Try.prog w = .ok (.agg (outC (q, body)).toArray) w := by
  have h := run_build_all (P := Try.prog) 39 (Try.prog.fieldsOf 39) _ #[(0, 1), (1, 105)] (by kernel_rfl) zeroOut (fun w => by kernel_rfl) [.int .u32 (wb q), .agg (encs .u8 body)] (by simp [tiles, Value.cells, encs_size, hb]) (by simp [catCells, Value.cells, encs_size, hb, outC, encL_length, z105]) w
  have e : (catCells [.int .u32 (wb q), .agg (encs .u8 body)]).toArray = (outC (q, body)).toArray := by simp [catCells, Value.cells, outC, encs_toList]
  rw [e] at h
  exact h
theorem own_apart {w : World} {b b' : Nat} {v v' : Value} {l l' : List CE} (h : OwnE outEl w b v l) (h' : OwnE inEl w b' v' l') : ∀ k, v'.ownBlock = some k → v.ownBlock ≠ some k := by
  intro k hk hv
  rcases h.2.2 with ⟨rfl, _⟩ | ⟨g, cap, cur, rfl, _, hg, _⟩
  · cases hv
  · rcases h'.2.2 with ⟨rfl, _⟩ | ⟨g', cap', cur', rfl, _, hg', _⟩
    · cases hk
    · cases hv
      cases hk
      have := hg.symm.trans hg'
      simp only [Option.some.injEq, Obj.cells.injEq] at this
      have h2 := this.2.1
      cases h2
def queueC (c : Cv) (body : List (BitVec 8)) : Cv := ⟨c.nx + 1, c.outs ++ [(c.nx, body)], c.turn, c.dl, c.held⟩
def fullB (c : Cv) : Bool := ((c.outs.length : Int) == 4) || (wb c.nx == 2147483648)
def queueR (c : Cv) (body : List (BitVec 8)) : Cv × BitVec 32 × Int := if rightC c then (if fullB c then (cv0, 0, 6) else (queueC c body, c.nx, 0)) else (cv0, 0, 281)
def QueueP (r : Cv × BitVec 32 × Int) (w : World) (e : Ending) (w' : World) : Prop := ∃ u, e = .returned (.tuple #[u, .int .u32 (wb r.2.1), .int .i64 r.2.2]) ∧ OwnC w' w.heap.size u r.1 ∧ Below w.heap.size w w'
set_option maxRecDepth 100000 in
set_option maxHeartbeats 8000000 in
theorem queue_any {c : Cv} {v : Value} (body : List (BitVec 8)) (w : World) (h : ArgC w v c) (hbl : body.length = 105) (hn : c.outs.length ≤ 1099511627775) (hm : c.held.length ≤ 1099511627775) :
    Calls Try.prog 18 #[v, .agg (encs .u8 body)] w (QueueP (queueR c body) w) := by
  have HARG := Lib.hid h
  have HCK := Lib.hid (fun wx (hb : Below w.heap.size w wx) => check_any wx (h.below hb) (by omega) (by omega))
  have HCL := Lib.hid (fun wx (hb : Below w.heap.size w wx) => cvclone_any wx (h.below hb) (by omega) (by omega))
  obtain ⟨vo, vi, rfl, ⟨A, p, rfl, -⟩, ⟨A3, p3, rfl, -⟩⟩ := h
  have HN := Lib.hid hn
  have HBL := Lib.hid hbl
  have HBU := Lib.hid (build_out c.nx body hbl)
  have hnx : IntKind.u32.wrap (wb c.nx + 1) = wb (c.nx + 1) := wrap_add isU32 c.nx 1
  have hnb : (c.outs.length : Int) ≤ 1099511627775 := by omega
  have hb : Below w.heap.size w (((w.alloc (.cells #[.int .u32 (wb c.nx), (.slice A c.outs.length p), .int .i64 c.turn, .int .u32 (wb c.dl), (.slice A3 c.held.length p3)] 26)).alloc (.cells (encs .u8 body) 27)).alloc (.cells cvZ 26)) := (((Below.refl _ _).alloc (Nat.le_refl _) _).alloc (by simp) _).alloc (by simp; omega) _
  have mb := ((Blk.new w #[.int .u32 (wb c.nx), (.slice A c.outs.length p), .int .i64 c.turn, .int .u32 (wb c.dl), (.slice A3 c.held.length p3)] 26).alloc (.cells (encs .u8 body) 27)).alloc (.cells cvZ 26)
  have md := (Blk.new (w.alloc (.cells #[.int .u32 (wb c.nx), (.slice A c.outs.length p), .int .i64 c.turn, .int .u32 (wb c.dl), (.slice A3 c.held.length p3)] 26)) (encs .u8 body) 27).alloc (.cells cvZ 26)
  have mr := Blk.new ((w.alloc (.cells #[.int .u32 (wb c.nx), (.slice A c.outs.length p), .int .i64 c.turn, .int .u32 (wb c.dl), (.slice A3 c.held.length p3)] 26)).alloc (.cells (encs .u8 body) 27)) cvZ 26
  rw [show (w.alloc (.cells #[.int .u32 (wb c.nx), (.slice A c.outs.length p), .int .i64 c.turn, .int .u32 (wb c.dl), (.slice A3 c.held.length p3)] 26)).heap.size = w.heap.size + 1 by simp] at md
  rw [show ((w.alloc (.cells #[.int .u32 (wb c.nx), (.slice A c.outs.length p), .int .i64 c.turn, .int .u32 (wb c.dl), (.slice A3 c.held.length p3)] 26)).alloc (.cells (encs .u8 body) 27)).heap.size = w.heap.size + 2 by simp] at mr
  have HS0 : Hid (w.heap.size + 3 ≤ (((w.alloc (.cells #[.int .u32 (wb c.nx), (.slice A c.outs.length p), .int .i64 c.turn, .int .u32 (wb c.dl), (.slice A3 c.held.length p3)] 26)).alloc (.cells (encs .u8 body) 27)).alloc (.cells cvZ 26)).heap.size) := by show _ ≤ _; simp
  clear hn hm hbl
  cases hr : rightC c with
  | false =>
    have HQ := Lib.hid (show queueR c body = (cv0, 0, 281) by unfold queueR; rw [hr]; rfl)
    rw [HQ.out]
    have HR := Lib.hid hr
    clear hr
    unfold cvZ at hb mb md mr HS0
    simp only [cvA] at *
    go_enter Try.func18, Try.ntmps18
    go_wp2_with (first | (refine wpList_load_last rfl 26 _ rfl _ #[.int .u32 (wb c.nx), (.slice A c.outs.length p), .int .i64 c.turn, .int .u32 (wb c.dl), (.slice A3 c.held.length p3)] 26 _ _ rfl rfl Try.underlying26 rfl (by exact sizeCv) ?_) | (refine wpList_load_row rfl 26 _ rfl w.heap.size rfl 26 #[.int .u32 (wb c.nx), (.slice A c.outs.length p), .int .i64 c.turn, .int .u32 (wb c.dl), (.slice A3 c.held.length p3)] _ _ mb Try.underlying26 rfl (by exact sizeCv) ?_) | fail)
    refine (HCK.out _ hb).mono ?_
    rintro e x1 ⟨rfl, hn⟩
    rw [HR.out]
    replace mb := mb.below hn mb.lt
    replace md := md.below hn md.lt
    replace mr := mr.below hn mr.lt
    replace hb := hb.trans (hn.mono hb.size)
    clear hn
    go_wp2_with (first | (refine wpList_build rfl 26 _ rfl (.agg cvZ) #[] build_cvZ (by simp) ?_) | (refine wpList_store_row rfl 26 _ _ rfl (w.heap.size + 2) cvZ rfl rfl 26 _ mr (by exact sizeCv) rfl (by simp [cvZ, Value.oneCell']) ?_; replace mr := mr.row cvZ; replace hb := below_setRow hb (show w.heap.size ≤ w.heap.size + 2 by omega) cvZ) | fail)
    refine bodyPost_ret (results_cell_tmp2 rfl _ _ (w.heap.size + 2) 26 _ _ _ _ _ rfl rfl rfl mr Try.underlying26 rfl (by exact sizeCv)) rfl ?_
    exact ⟨_, rfl, OwnC.zero _ _, hb⟩
  | true =>
    have HR := Lib.hid hr
    clear hr
    cases q1 : ((c.outs.length : Int) == 4) with
    | true =>
      have HQ := Lib.hid (show queueR c body = (cv0, 0, 6) by unfold queueR; rw [HR.out, if_pos rfl, if_pos (show fullB c = true by unfold fullB; rw [q1]; rfl)])
      rw [HQ.out]
      unfold cvZ at hb mb md mr HS0
      simp only [cvA] at *
      go_enter Try.func18, Try.ntmps18
      go_wp2_with (first | (refine wpList_load_last rfl 26 _ rfl _ #[.int .u32 (wb c.nx), (.slice A c.outs.length p), .int .i64 c.turn, .int .u32 (wb c.dl), (.slice A3 c.held.length p3)] 26 _ _ rfl rfl Try.underlying26 rfl (by exact sizeCv) ?_) | (refine wpList_load_row rfl 26 _ rfl w.heap.size rfl 26 #[.int .u32 (wb c.nx), (.slice A c.outs.length p), .int .i64 c.turn, .int .u32 (wb c.dl), (.slice A3 c.held.length p3)] _ _ mb Try.underlying26 rfl (by exact sizeCv) ?_) | fail)
      refine (HCK.out _ hb).mono ?_
      rintro e x1 ⟨rfl, hn⟩
      rw [HR.out]
      replace mb := mb.below hn mb.lt
      replace md := md.below hn md.lt
      replace mr := mr.below hn mr.lt
      replace hb := hb.trans (hn.mono hb.size)
      have hs1 := Nat.le_trans HS0.out hn.size
      clear hn
      have p0 := mb.cell 0
      have p1 := mb.cell 1
      go_wp2_with (first | (refine wpList_build rfl 26 _ rfl (.agg cvZ) #[] build_cvZ (by simp) ?_) | (refine wpList_store_row rfl 26 _ _ rfl (w.heap.size + 2) cvZ rfl rfl 26 _ mr (by exact sizeCv) rfl (by simp [cvZ, Value.oneCell']) ?_; replace mr := mr.row cvZ; replace hb := below_setRow hb (show w.heap.size ≤ w.heap.size + 2 by omega) cvZ) | fail)
      refine bodyPost_ret (results_cell_tmp2 rfl _ _ (w.heap.size + 2) 26 _ _ _ _ _ rfl rfl rfl mr Try.underlying26 rfl (by exact sizeCv)) rfl ?_
      exact ⟨_, rfl, OwnC.zero _ _, hb⟩
    | false =>
      cases q2 : (wb c.nx == 2147483648) with
      | true =>
        have HQ := Lib.hid (show queueR c body = (cv0, 0, 6) by unfold queueR; rw [HR.out, if_pos rfl, if_pos (show fullB c = true by unfold fullB; rw [q1, q2]; rfl)])
        rw [HQ.out]
        unfold cvZ at hb mb md mr HS0
        simp only [cvA] at *
        go_enter Try.func18, Try.ntmps18
        go_wp2_with (first | (refine wpList_load_last rfl 26 _ rfl _ #[.int .u32 (wb c.nx), (.slice A c.outs.length p), .int .i64 c.turn, .int .u32 (wb c.dl), (.slice A3 c.held.length p3)] 26 _ _ rfl rfl Try.underlying26 rfl (by exact sizeCv) ?_) | (refine wpList_load_row rfl 26 _ rfl w.heap.size rfl 26 #[.int .u32 (wb c.nx), (.slice A c.outs.length p), .int .i64 c.turn, .int .u32 (wb c.dl), (.slice A3 c.held.length p3)] _ _ mb Try.underlying26 rfl (by exact sizeCv) ?_) | fail)
        refine (HCK.out _ hb).mono ?_
        rintro e x1 ⟨rfl, hn⟩
        rw [HR.out]
        replace mb := mb.below hn mb.lt
        replace md := md.below hn md.lt
        replace mr := mr.below hn mr.lt
        replace hb := hb.trans (hn.mono hb.size)
        have hs1 := Nat.le_trans HS0.out hn.size
        clear hn
        have p0 := mb.cell 0
        have p1 := mb.cell 1
        go_wp2_with (first | (refine wpList_build rfl 26 _ rfl (.agg cvZ) #[] build_cvZ (by simp) ?_) | (refine wpList_store_row rfl 26 _ _ rfl (w.heap.size + 2) cvZ rfl rfl 26 _ mr (by exact sizeCv) rfl (by simp [cvZ, Value.oneCell']) ?_; replace mr := mr.row cvZ; replace hb := below_setRow hb (show w.heap.size ≤ w.heap.size + 2 by omega) cvZ) | fail)
        refine bodyPost_ret (results_cell_tmp2 rfl _ _ (w.heap.size + 2) 26 _ _ _ _ _ rfl rfl rfl mr Try.underlying26 rfl (by exact sizeCv)) rfl ?_
        exact ⟨_, rfl, OwnC.zero _ _, hb⟩
      | false =>
        have HQ := Lib.hid (show queueR c body = (queueC c body, c.nx, 0) by unfold queueR; rw [HR.out, if_pos rfl, if_neg (show ¬ fullB c = true by unfold fullB; rw [q1, q2]; decide)])
        rw [HQ.out]
        unfold cvZ at hb mb md mr HS0
        simp only [cvA] at *
        go_enter Try.func18, Try.ntmps18
        go_wp2_with (first | (refine wpList_load_last rfl 26 _ rfl _ #[.int .u32 (wb c.nx), (.slice A c.outs.length p), .int .i64 c.turn, .int .u32 (wb c.dl), (.slice A3 c.held.length p3)] 26 _ _ rfl rfl Try.underlying26 rfl (by exact sizeCv) ?_) | (refine wpList_load_row rfl 26 _ rfl w.heap.size rfl 26 #[.int .u32 (wb c.nx), (.slice A c.outs.length p), .int .i64 c.turn, .int .u32 (wb c.dl), (.slice A3 c.held.length p3)] _ _ mb Try.underlying26 rfl (by exact sizeCv) ?_) | fail)
        refine (HCK.out _ hb).mono ?_
        rintro e x1 ⟨rfl, hn⟩
        rw [HR.out]
        replace mb := mb.below hn mb.lt
        replace md := md.below hn md.lt
        replace mr := mr.below hn mr.lt
        replace hb := hb.trans (hn.mono hb.size)
        have hs1 := Nat.le_trans HS0.out hn.size
        clear hn
        have p0 := mb.cell 0
        have p1 := mb.cell 1
        go_wp2_with (first | (refine wpList_load_row rfl 26 _ rfl w.heap.size rfl 26 #[.int .u32 (wb c.nx), (.slice A c.outs.length p), .int .i64 c.turn, .int .u32 (wb c.dl), (.slice A3 c.held.length p3)] _ _ mb Try.underlying26 rfl (by exact sizeCv) ?_) | fail)
        refine (HCL.out _ hb).mono ?_
        rintro e x2 ⟨u, rfl, ⟨u1, u2, rfl, o1, o2⟩, hn⟩
        replace o1 := o1.base hs1
        replace o2 := o2.base hs1
        obtain ⟨G1, pp1, rfl, -⟩ := id o1.arg
        obtain ⟨G2, pp2, rfl, -⟩ := id o2.arg
        replace mb := mb.below hn mb.lt
        replace md := md.below hn md.lt
        replace mr := mr.below hn mr.lt
        replace hb := hb.trans (hn.mono hb.size)
        have hs2 := Nat.le_trans hs1 hn.size
        clear hn p0 p1
        go_wp2_with (first
          | (refine wpList_store_row rfl 26 _ _ rfl w.heap.size (cvA c (.slice G1 c.outs.length pp1) (.slice G2 c.held.length pp2)) rfl rfl 26 _ mb (by exact sizeCv) (by simp [cvA]) (by simp [cvA, Value.oneCell']) ?_; replace mb := mb.row (cvA c (.slice G1 c.outs.length pp1) (.slice G2 c.held.length pp2)); replace md := md.farRow (show w.heap.size + 1 ≠ w.heap.size by omega) (cvA c (.slice G1 c.outs.length pp1) (.slice G2 c.held.length pp2)); replace mr := mr.farRow (show w.heap.size + 2 ≠ w.heap.size by omega) (cvA c (.slice G1 c.outs.length pp1) (.slice G2 c.held.length pp2)); replace hb := below_setRow hb (Nat.le_refl w.heap.size) (cvA c (.slice G1 c.outs.length pp1) (.slice G2 c.held.length pp2)); replace o1 := o1.upd ((Upd.refl _ _).setRow (cvA c (.slice G1 c.outs.length pp1) (.slice G2 c.held.length pp2))) (show w.heap.size < w.heap.size + 3 by omega); replace o2 := o2.upd ((Upd.refl _ _).setRow (cvA c (.slice G1 c.outs.length pp1) (.slice G2 c.held.length pp2))) (show w.heap.size < w.heap.size + 3 by omega); have hs3 : w.heap.size + 3 ≤ (x2.setRow w.heap.size (cvA c (.slice G1 c.outs.length pp1) (.slice G2 c.held.length pp2))).heap.size := Nat.le_trans hs2 ((Upd.refl w.heap.size x2).setRow (cvA c (.slice G1 c.outs.length pp1) (.slice G2 c.held.length pp2))).size; generalize x2.setRow w.heap.size (cvA c (.slice G1 c.outs.length pp1) (.slice G2 c.held.length pp2)) = x3 at *; have p0 : x3.cell? ⟨w.heap.size, 0, none⟩ = some (.int .u32 (wb c.nx)) := mb.cell 0; have p1c : x3.cell? ⟨w.heap.size, 1, none⟩ = some (.slice G1 c.outs.length pp1) := mb.cell 1)
          | (refine wpList_load_row rfl 27 _ rfl (w.heap.size + 1) rfl 27 (encs .u8 body) _ _ md Try.underlying27 rfl (by rw [encs_size, HBL.out]; exact size105) ?_)
          | (refine wpList_build rfl 39 _ rfl (.agg (outC (c.nx, body)).toArray) #[(0, .int .u32 (wb c.nx)), (1, .agg (encs .u8 body))] HBU.out (by simp [Act.eval, Act.put]) ?_)
          | (refine wpList_bslice_one outT (by omega) zeroOut rfl _ rfl (outC (c.nx, body)).toArray (by show (outC (c.nx, body)).length = 106; exact outC_length _ HBL.out) rfl ?_; have hn : Below x3.heap.size x3 (x3.alloc (.cells (outC (c.nx, body)).toArray 39)) := (Below.refl _ _).alloc (Nat.le_refl _) _; have a9 : ArgE outEl (x3.alloc (.cells (outC (c.nx, body)).toArray 39)) (.slice (some ⟨x3.heap.size, 0, none⟩) 1 1) [(c.nx, body)] := (OwnE.ofBlk (L := outEl) (x := (c.nx, body)) (Blk.new x3 (outC (c.nx, body)).toArray 39) (Nat.zero_le _) HBL.out).arg; replace mb := mb.below hn mb.lt; replace md := md.below hn md.lt; replace mr := mr.below hn mr.lt; replace hb := hb.trans (hn.mono hb.size); replace o1 := o1.below hn; replace o2 := o2.below hn; have hs4 := Nat.le_trans hs3 hn.size; clear hn hs3 p0 p1c; generalize x3.alloc (.cells (outC (c.nx, body)).toArray 39) = x4 at *; generalize Value.slice (some ⟨x3.heap.size, 0, none⟩) 1 1 = v9 at *)
          | (at_builtin; refine wpList_appE outEl rfl _ _ rfl (w.heap.size + 3) (.slice G1 c.outs.length pp1) c.outs rfl o1 _ [(c.nx, body)] rfl a9 (by have := HN.out; show (c.outs.length + 1) * 112 ≤ _; omega) hs4 (fun v5 x5 o5 hgr _ hb5 => ?_); replace o2 := o2.grown hgr (own_apart o1 o2); obtain ⟨G5, p5, rfl, -⟩ := id o5.arg; have hl5 : (c.outs ++ [(c.nx, body)]).length = c.outs.length + 1 := (by simp); rw [hl5] at o5; try rw [hl5]; clear hl5; replace mb := mb.below hb5 (by omega); replace md := md.below hb5 (by omega); replace mr := mr.below hb5 (by omega); replace hb := hb.trans (hb5.mono (by omega)); clear hb5 hgr a9 o1; have p1 := mb.cell 1; have f1 := mb.frozen 1; replace mb : Blk (x5.setCell ⟨w.heap.size, 1, none⟩ (.slice G5 (c.outs.length + 1) p5)) w.heap.size #[.int .u32 (wb c.nx), (.slice G5 (c.outs.length + 1) p5), .int .i64 c.turn, .int .u32 (wb c.dl), (.slice G2 c.held.length pp2)] 26 := mb.set 1 _; replace mr := mr.farAt (by omega) 1 (.slice G5 (c.outs.length + 1) p5) (g' := w.heap.size); replace hb := below_setCell hb (Nat.le_refl w.heap.size) 1 (.slice G5 (c.outs.length + 1) p5); replace o2 := o2.upd ((Upd.refl _ _).setCell 1 (.slice G5 (c.outs.length + 1) p5)) (show w.heap.size < w.heap.size + 3 by omega); replace o5 := o5.upd ((Upd.refl _ _).setCell 1 (.slice G5 (c.outs.length + 1) p5)) (show w.heap.size < w.heap.size + 3 by omega); have p0 := mb.cell 0; have f0 := mb.frozen 0; replace mb : Blk ((x5.setCell ⟨w.heap.size, 1, none⟩ (.slice G5 (c.outs.length + 1) p5)).setCell ⟨w.heap.size, 0, none⟩ (.int .u32 (wb (c.nx + 1)))) w.heap.size (cvA (queueC c body) (.slice G5 (c.outs.length + 1) p5) (.slice G2 c.held.length pp2)) 26 := mb.set 0 _; replace mr := mr.farAt (by omega) 0 (.int .u32 (wb (c.nx + 1))) (g' := w.heap.size); replace hb := below_setCell hb (Nat.le_refl w.heap.size) 0 (.int .u32 (wb (c.nx + 1))); replace o2 := o2.upd ((Upd.refl _ _).setCell 0 (.int .u32 (wb (c.nx + 1)))) (show w.heap.size < w.heap.size + 3 by omega); replace o5 := o5.upd ((Upd.refl _ _).setCell 0 (.int .u32 (wb (c.nx + 1)))) (show w.heap.size < w.heap.size + 3 by omega))
          | (refine wpList_load_row rfl 26 _ rfl w.heap.size rfl 26 (cvA (queueC c body) (.slice G5 (c.outs.length + 1) p5) (.slice G2 c.held.length pp2)) _ _ mb Try.underlying26 rfl (by exact sizeCv) ?_)
          | (refine wpList_store_row rfl 26 _ _ rfl (w.heap.size + 2) (cvA (queueC c body) (.slice G5 (c.outs.length + 1) p5) (.slice G2 c.held.length pp2)) rfl rfl 26 _ mr (by exact sizeCv) (by simp [cvA]) (by simp [cvA, Value.oneCell']) ?_; replace mr := mr.row (cvA (queueC c body) (.slice G5 (c.outs.length + 1) p5) (.slice G2 c.held.length pp2)); replace hb := below_setRow hb (show w.heap.size ≤ w.heap.size + 2 by omega) (cvA (queueC c body) (.slice G5 (c.outs.length + 1) p5) (.slice G2 c.held.length pp2)); replace o2 := o2.upd ((Upd.refl _ _).setRow (cvA (queueC c body) (.slice G5 (c.outs.length + 1) p5) (.slice G2 c.held.length pp2))) (show w.heap.size + 2 < w.heap.size + 3 by omega); replace o5 := o5.upd ((Upd.refl _ _).setRow (cvA (queueC c body) (.slice G5 (c.outs.length + 1) p5) (.slice G2 c.held.length pp2))) (show w.heap.size + 2 < w.heap.size + 3 by omega))
          | fail)
        refine bodyPost_ret (results_cell_tmp2 rfl _ _ (w.heap.size + 2) 26 _ _ _ _ _ rfl rfl rfl mr Try.underlying26 rfl (by exact sizeCv)) rfl ?_
        exact ⟨_, rfl, ⟨_, _, rfl, o5.base (by omega), o2.base (by omega)⟩, hb⟩
end Go.Proofs.Ytjghhbollgggoaa
