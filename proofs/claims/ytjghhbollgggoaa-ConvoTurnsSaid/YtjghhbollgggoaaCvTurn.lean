/- convo's Turn (printed by genturn.py). -/
import Derived.Test.YtjghhbollgggoaaCvQueue
import Derived.Test.YtjghhbollgggoaaStepSt
namespace Go.Proofs.Ytjghhbollgggoaa
open Go.RowKit
set_option linter.unusedVariables false
set_option linter.unusedSimpArgs false
theorem results_cct {P : Program} {fn : Func} {p q r : Tmp} {ty ty' : TypeId} (h : fn.results = #[.cell p ty, .cell q ty', .tmp r]) (tmps : Array Value) (w : World) (g g' : Nat) (t t' : TypeId) (cs cs' : Array Value) (fr fr' : Nat × Nat) (d d' : TypeDesc) (v : Value)
    (hp : tmps.getD p undef = .pointer (some ⟨g, 0, none⟩)) (hq : tmps.getD q undef = .pointer (some ⟨g', 0, none⟩)) (hr : tmps.getD r undef = v) (hg : w.heap[g]? = some (.cells cs t fr)) (hg' : w.heap[g']? = some (.cells cs' t' fr'))
    (hu : P.underlying ty = some d) (hd : (match d with | .struct _ | .array _ _ => true | _ => false) = true) (hi : (P.info? ty).map (·.size) = some cs.size)
    (hu' : P.underlying ty' = some d') (hd' : (match d' with | .struct _ | .array _ _ => true | _ => false) = true) (hi' : (P.info? ty').map (·.size) = some cs'.size) :
    (results fn tmps).run P w = .ok (.tuple #[.agg cs, .agg cs', v]) w := by
  have hp' : tmps[p]?.getD undef = .pointer (some ⟨g, 0, none⟩) := by simpa using hp
  have hq' : tmps[q]?.getD undef = .pointer (some ⟨g', 0, none⟩) := by simpa using hq
  have hr' : tmps[r]?.getD undef = v := by simpa using hr
  simp [results, h, hp', hq', hr', asAddr, run_loadVar_row w g t ty cs fr d hg hu hd hi, run_loadVar_row w g' t' ty' cs' fr' d' hg' hu' hd' hi']
theorem ArgE.at {E : Type} {L : El Try.prog E} {w : World} {A : Option Addr} {n cap : Nat} {l : List E} {i : Nat} {x : E} (h : ArgE L w (.slice A n cap) l) (hx : l[i]? = some x) : ∃ g off, A = some ⟨g, off, none⟩ ∧ AtE L w g (off + i * L.size) x := by
  obtain ⟨A', cap', he, _, hok, hc⟩ := h
  cases he
  exact cells_at hok hc hx
theorem build_out0 (w : World) : (Instr.build 39 #[]).run Try.prog w = .ok (.agg (outC (0, z105)).toArray) w := by kernel_rfl
theorem zero39 : Try.zeroCells39 = (outC (0, z105)).toArray := by kernel_rfl
theorem outC_one (x : CE) : (outC x).toArray.all (·.oneCell') = true := by
  rw [Array.all_eq_true_iff_forall_mem]
  intro u hu
  have hu' : u ∈ outC x := by simpa using hu
  rcases List.mem_cons.1 hu' with rfl | h
  · rfl
  · exact encL_one _ _ u h
theorem sizeOutC (x : CE) (h : x.2.length = 105) : (Try.prog.info? 39).map (·.size) = some (outC x).toArray.size := by
  show _ = some (outC x).length
  rw [outC_length x h]
  exact sizeOut
theorem holdOutC (x y : CE) (h : x.2.length = 105) (h' : y.2.length = 105) : (outC x).toArray.size = (outC y).toArray.size := by
  show (outC x).length = (outC y).length
  rw [outC_length x h, outC_length y h']
def ceZ : CE := (0, z105)
def outAt (c : Cv) : CE := c.outs.getD c.turn.toNat ceZ
def turnC (c : Cv) : Cv := ⟨c.nx, c.outs, (c.turn + 1) % (c.outs.length : Int), c.dl, c.held⟩
def turnR (c : Cv) : Cv × CE × Int := if rightC c then (if ((c.outs.length : Int) == 0) then (cv0, ceZ, 4) else (turnC c, outAt c, 0)) else (cv0, ceZ, 281)
def TurnP (r : Cv × CE × Int) (w : World) (e : Ending) (w' : World) : Prop := ∃ u, e = .returned (.tuple #[u, .agg (outC r.2.1).toArray, .int .i64 r.2.2]) ∧ OwnC w' w.heap.size u r.1 ∧ Below w.heap.size w w'
set_option maxRecDepth 100000 in
set_option maxHeartbeats 8000000 in
theorem turn_any {c : Cv} {v : Value} (w : World) (h : ArgC w v c) (hn : c.outs.length ≤ 1099511627775) (hm : c.held.length ≤ 1099511627775) :
    Calls Try.prog 23 #[v] w (TurnP (turnR c) w) := by
  have HARG := Lib.hid h
  have HCK := Lib.hid (fun wx (hb : Below w.heap.size w wx) => check_any wx (h.below hb) (by omega) (by omega))
  have HCL := Lib.hid (fun wx (hb : Below w.heap.size w wx) => cvclone_any wx (h.below hb) (by omega) (by omega))
  obtain ⟨vo, vi, rfl, ⟨A, p, rfl, -, hok0, -⟩, ⟨A3, p3, rfl, -⟩⟩ := h
  have HOK0 := Lib.hid hok0
  have hnb : (c.outs.length : Int) ≤ 1099511627775 := by omega
  have hb : Below w.heap.size w (((w.alloc (.cells #[.int .u32 (wb c.nx), (.slice A c.outs.length p), .int .i64 c.turn, .int .u32 (wb c.dl), (.slice A3 c.held.length p3)] 26)).alloc (.cells cvZ 26)).alloc (.cells (outC ceZ).toArray 39)) := (((Below.refl _ _).alloc (Nat.le_refl _) _).alloc (by simp) _).alloc (by simp; omega) _
  have mb := ((Blk.new w #[.int .u32 (wb c.nx), (.slice A c.outs.length p), .int .i64 c.turn, .int .u32 (wb c.dl), (.slice A3 c.held.length p3)] 26).alloc (.cells cvZ 26)).alloc (.cells (outC ceZ).toArray 39)
  have mr := (Blk.new (w.alloc (.cells #[.int .u32 (wb c.nx), (.slice A c.outs.length p), .int .i64 c.turn, .int .u32 (wb c.dl), (.slice A3 c.held.length p3)] 26)) cvZ 26).alloc (.cells (outC ceZ).toArray 39)
  have mo := Blk.new ((w.alloc (.cells #[.int .u32 (wb c.nx), (.slice A c.outs.length p), .int .i64 c.turn, .int .u32 (wb c.dl), (.slice A3 c.held.length p3)] 26)).alloc (.cells cvZ 26)) (outC ceZ).toArray 39
  rw [show (w.alloc (.cells #[.int .u32 (wb c.nx), (.slice A c.outs.length p), .int .i64 c.turn, .int .u32 (wb c.dl), (.slice A3 c.held.length p3)] 26)).heap.size = w.heap.size + 1 by simp] at mr
  rw [show ((w.alloc (.cells #[.int .u32 (wb c.nx), (.slice A c.outs.length p), .int .i64 c.turn, .int .u32 (wb c.dl), (.slice A3 c.held.length p3)] 26)).alloc (.cells cvZ 26)).heap.size = w.heap.size + 2 by simp] at mo
  have HS0 : Hid (w.heap.size + 3 ≤ (((w.alloc (.cells #[.int .u32 (wb c.nx), (.slice A c.outs.length p), .int .i64 c.turn, .int .u32 (wb c.dl), (.slice A3 c.held.length p3)] 26)).alloc (.cells cvZ 26)).alloc (.cells (outC ceZ).toArray 39)).heap.size) := by show _ ≤ _; simp
  rw [show (outC ceZ).toArray = Try.zeroCells39 from zero39.symm] at hb mb mr HS0
  rw [show Blk _ _ (outC ceZ).toArray 39 = Blk _ _ Try.zeroCells39 39 by rw [zero39]; rfl] at mo
  clear hn hm hok0
  cases hr : rightC c with
  | false =>
    have HQ := Lib.hid (show turnR c = (cv0, ceZ, 281) by unfold turnR; rw [hr]; rfl)
    have HR := Lib.hid hr
    clear hr
    rw [HQ.out]
    unfold cvZ at hb mb mo mr HS0
    simp only [cvA] at *
    go_enter Try.func23, Try.ntmps23
    go_wp2_with (first | (refine wpList_load_row rfl 26 _ rfl w.heap.size rfl 26 #[.int .u32 (wb c.nx), (.slice A c.outs.length p), .int .i64 c.turn, .int .u32 (wb c.dl), (.slice A3 c.held.length p3)] _ _ mb Try.underlying26 rfl (by exact sizeCv) ?_) | fail)
    refine (HCK.out _ hb).mono ?_
    rintro e x1 ⟨rfl, hn⟩
    rw [HR.out]
    replace mb := mb.below hn mb.lt
    replace mr := mr.below hn mr.lt
    replace mo := mo.below hn mo.lt
    replace hb := hb.trans (hn.mono hb.size)
    have hs1 := Nat.le_trans HS0.out hn.size
    clear hn
    go_wp2_with (first
      | (refine wpList_build rfl 26 _ rfl (.agg cvZ) #[] build_cvZ (by simp) ?_)
      | (refine wpList_build rfl 39 _ rfl (.agg (outC ceZ).toArray) #[] build_out0 (by simp) ?_)
      | (refine wpList_store_row rfl 26 _ _ rfl (w.heap.size + 1) cvZ rfl rfl 26 _ mr (by exact sizeCv) rfl (by simp [cvZ, Value.oneCell']) ?_; replace mr := mr.row cvZ; replace mo := mo.farRow (show w.heap.size + 2 ≠ w.heap.size + 1 by omega) cvZ; replace hb := below_setRow hb (show w.heap.size ≤ w.heap.size + 1 by omega) cvZ)
      | (refine wpList_store_row rfl 39 _ _ rfl (w.heap.size + 2) (outC ceZ).toArray rfl rfl 39 _ mo (sizeOutC ceZ rfl) rfl (outC_one ceZ) ?_; replace mo := mo.row (outC ceZ).toArray; replace mr := mr.farRow (show w.heap.size + 1 ≠ w.heap.size + 2 by omega) (outC ceZ).toArray; replace hb := below_setRow hb (show w.heap.size ≤ w.heap.size + 2 by omega) (outC ceZ).toArray)
      | fail)
    refine bodyPost_ret (results_cct rfl _ _ (w.heap.size + 1) (w.heap.size + 2) 26 39 _ _ _ _ _ _ _ rfl rfl rfl mr mo Try.underlying26 rfl (by exact sizeCv) Try.underlying39 rfl (sizeOutC ceZ rfl)) rfl ?_
    exact ⟨_, rfl, OwnC.zero _ _, hb⟩
  | true =>
    have HR := Lib.hid hr
    clear hr
    cases q1 : ((c.outs.length : Int) == 0) with
    | true =>
      have HQ := Lib.hid (show turnR c = (cv0, ceZ, 4) by unfold turnR; rw [HR.out, if_pos rfl, if_pos q1])
      rw [HQ.out]
      unfold cvZ at hb mb mo mr HS0
      simp only [cvA] at *
      go_enter Try.func23, Try.ntmps23
      go_wp2_with (first | (refine wpList_load_row rfl 26 _ rfl w.heap.size rfl 26 #[.int .u32 (wb c.nx), (.slice A c.outs.length p), .int .i64 c.turn, .int .u32 (wb c.dl), (.slice A3 c.held.length p3)] _ _ mb Try.underlying26 rfl (by exact sizeCv) ?_) | fail)
      refine (HCK.out _ hb).mono ?_
      rintro e x1 ⟨rfl, hn⟩
      rw [HR.out]
      replace mb := mb.below hn mb.lt
      replace mr := mr.below hn mr.lt
      replace mo := mo.below hn mo.lt
      replace hb := hb.trans (hn.mono hb.size)
      have hs1 := Nat.le_trans HS0.out hn.size
      clear hn
      have p1 := mb.cell 1
      go_wp2_with (first
        | (refine wpList_build rfl 26 _ rfl (.agg cvZ) #[] build_cvZ (by simp) ?_)
        | (refine wpList_build rfl 39 _ rfl (.agg (outC ceZ).toArray) #[] build_out0 (by simp) ?_)
        | (refine wpList_store_row rfl 26 _ _ rfl (w.heap.size + 1) cvZ rfl rfl 26 _ mr (by exact sizeCv) rfl (by simp [cvZ, Value.oneCell']) ?_; replace mr := mr.row cvZ; replace mo := mo.farRow (show w.heap.size + 2 ≠ w.heap.size + 1 by omega) cvZ; replace hb := below_setRow hb (show w.heap.size ≤ w.heap.size + 1 by omega) cvZ)
        | (refine wpList_store_row rfl 39 _ _ rfl (w.heap.size + 2) (outC ceZ).toArray rfl rfl 39 _ mo (sizeOutC ceZ rfl) rfl (outC_one ceZ) ?_; replace mo := mo.row (outC ceZ).toArray; replace mr := mr.farRow (show w.heap.size + 1 ≠ w.heap.size + 2 by omega) (outC ceZ).toArray; replace hb := below_setRow hb (show w.heap.size ≤ w.heap.size + 2 by omega) (outC ceZ).toArray)
        | fail)
      refine bodyPost_ret (results_cct rfl _ _ (w.heap.size + 1) (w.heap.size + 2) 26 39 _ _ _ _ _ _ _ rfl rfl rfl mr mo Try.underlying26 rfl (by exact sizeCv) Try.underlying39 rfl (sizeOutC ceZ rfl)) rfl ?_
      exact ⟨_, rfl, OwnC.zero _ _, hb⟩
    | false =>
      have HQ := Lib.hid (show turnR c = (turnC c, outAt c, 0) by unfold turnR; rw [HR.out, if_pos rfl, if_neg (by rw [q1]; decide)])
      have hlen0 : 0 < c.outs.length := by
        have h0 : (c.outs.length : Int) ≠ 0 := by intro h; rw [h] at q1; exact absurd q1 (by decide)
        omega
      have hts : 0 ≤ c.turn ∧ c.turn ≤ ((c.outs.length - 1 : Nat) : Int) := by
        have := HR.out
        unfold rightC at this
        simp only [Bool.and_eq_true, decide_eq_true_eq] at this
        exact ⟨this.1.1.1.2, this.1.1.2⟩
      obtain ⟨x, hx⟩ : ∃ x, c.outs[c.turn.toNat]? = some x := ⟨_, List.getElem?_eq_getElem (by omega)⟩
      have HXA : Hid (outAt c = x) := by show _ = _; unfold outAt; rw [List.getD, hx]; rfl
      have HX := Lib.hid hx
      have HXL : Hid (x.2.length = 105) := HOK0.out x (mem_of_get hx)
      have t0 : 0 ≤ c.turn := hts.1
      have t1 : c.turn < (c.outs.length : Int) := by omega
      have hwt : IntKind.i64.wrap (c.turn + 1) = c.turn + 1 := IntWalk.i64_in _ (by omega)
      have HCZ : Hid (c.outs.length ≠ 0) := by show _ ≠ _; omega
      clear hx hts hlen0
      rw [HXA.out] at HQ
      rw [HQ.out]
      unfold cvZ at hb mb mo mr HS0
      simp only [cvA] at *
      go_enter Try.func23, Try.ntmps23
      go_wp2_with (first | (refine wpList_load_row rfl 26 _ rfl w.heap.size rfl 26 #[.int .u32 (wb c.nx), (.slice A c.outs.length p), .int .i64 c.turn, .int .u32 (wb c.dl), (.slice A3 c.held.length p3)] _ _ mb Try.underlying26 rfl (by exact sizeCv) ?_) | fail)
      refine (HCK.out _ hb).mono ?_
      rintro e x1 ⟨rfl, hn⟩
      rw [HR.out]
      replace mb := mb.below hn mb.lt
      replace mr := mr.below hn mr.lt
      replace mo := mo.below hn mo.lt
      replace hb := hb.trans (hn.mono hb.size)
      have hs1 := Nat.le_trans HS0.out hn.size
      clear hn
      have p1 := mb.cell 1
      go_wp2_with (first | (refine wpList_load_row rfl 26 _ rfl w.heap.size rfl 26 #[.int .u32 (wb c.nx), (.slice A c.outs.length p), .int .i64 c.turn, .int .u32 (wb c.dl), (.slice A3 c.held.length p3)] _ _ mb Try.underlying26 rfl (by exact sizeCv) ?_) | fail)
      refine (HCL.out _ hb).mono ?_
      rintro e x2 ⟨u, rfl, ⟨u1, u2, rfl, o1, o2⟩, hn⟩
      replace o1 := o1.base hs1
      replace o2 := o2.base hs1
      obtain ⟨G1, pp1, rfl, -⟩ := id o1.arg
      obtain ⟨G2, pp2, rfl, -⟩ := id o2.arg
      simp only [cvA] at *
      replace mb := mb.below hn mb.lt
      replace mr := mr.below hn mr.lt
      replace mo := mo.below hn mo.lt
      replace hb := hb.trans (hn.mono hb.size)
      have hs2 := Nat.le_trans hs1 hn.size
      clear hn p1
      go_wp2_with (first
        | (refine wpList_store_row rfl 26 _ _ rfl w.heap.size #[.int .u32 (wb c.nx), (.slice G1 c.outs.length pp1), .int .i64 c.turn, .int .u32 (wb c.dl), (.slice G2 c.held.length pp2)] rfl rfl 26 _ mb (by exact sizeCv) (by simp) (by simp [Value.oneCell']) ?_; replace mb := mb.row #[.int .u32 (wb c.nx), (.slice G1 c.outs.length pp1), .int .i64 c.turn, .int .u32 (wb c.dl), (.slice G2 c.held.length pp2)]; replace mr := mr.farRow (show w.heap.size + 1 ≠ w.heap.size by omega) #[.int .u32 (wb c.nx), (.slice G1 c.outs.length pp1), .int .i64 c.turn, .int .u32 (wb c.dl), (.slice G2 c.held.length pp2)]; replace mo := mo.farRow (show w.heap.size + 2 ≠ w.heap.size by omega) #[.int .u32 (wb c.nx), (.slice G1 c.outs.length pp1), .int .i64 c.turn, .int .u32 (wb c.dl), (.slice G2 c.held.length pp2)]; replace hb := below_setRow hb (Nat.le_refl w.heap.size) #[.int .u32 (wb c.nx), (.slice G1 c.outs.length pp1), .int .i64 c.turn, .int .u32 (wb c.dl), (.slice G2 c.held.length pp2)]; replace o1 := o1.upd ((Upd.refl _ _).setRow #[.int .u32 (wb c.nx), (.slice G1 c.outs.length pp1), .int .i64 c.turn, .int .u32 (wb c.dl), (.slice G2 c.held.length pp2)]) (show w.heap.size < w.heap.size + 3 by omega); replace o2 := o2.upd ((Upd.refl _ _).setRow #[.int .u32 (wb c.nx), (.slice G1 c.outs.length pp1), .int .i64 c.turn, .int .u32 (wb c.dl), (.slice G2 c.held.length pp2)]) (show w.heap.size < w.heap.size + 3 by omega); have hs3 : w.heap.size + 3 ≤ (x2.setRow w.heap.size #[.int .u32 (wb c.nx), (.slice G1 c.outs.length pp1), .int .i64 c.turn, .int .u32 (wb c.dl), (.slice G2 c.held.length pp2)]).heap.size := Nat.le_trans hs2 ((Upd.refl w.heap.size x2).setRow #[.int .u32 (wb c.nx), (.slice G1 c.outs.length pp1), .int .i64 c.turn, .int .u32 (wb c.dl), (.slice G2 c.held.length pp2)]).size; generalize x2.setRow w.heap.size #[.int .u32 (wb c.nx), (.slice G1 c.outs.length pp1), .int .i64 c.turn, .int .u32 (wb c.dl), (.slice G2 c.held.length pp2)] = x3 at *; have p1 := mb.cell 1; have p2 := mb.cell 2; obtain ⟨g, o, rfl, hat⟩ := o1.arg.at HX.out)
        | (refine wpList_load_cells rfl 39 _ rfl g (o + c.turn.toNat * 106) rfl (outC x) hat _ Try.underlying39 rfl (sizeOutC x HXL.out) ?_)
        | (refine wpList_store_last rfl 39 _ _ rfl _ _ (outC x).toArray 39 rfl rfl rfl (sizeOutC x HXL.out) (by rw [zero39]; exact holdOutC ceZ x rfl HXL.out) (outC_one x) ?_; have m7 := Blk.new x3 (outC x).toArray 39; have hn : Below x3.heap.size x3 (x3.alloc (.cells (outC x).toArray 39)) := (Below.refl _ _).alloc (Nat.le_refl _) _; replace mb := mb.below hn mb.lt; replace mr := mr.below hn mr.lt; replace mo := mo.below hn mo.lt; replace hb := hb.trans (hn.mono hb.size); replace o1 := o1.below hn; replace o2 := o2.below hn; clear hn p1 p2 hat; generalize hg7 : x3.heap.size = g7 at *; have hlt7 : w.heap.size + 3 ≤ g7 := hs3; generalize x3.alloc (.cells (outC x).toArray 39) = x4 at *; have p2 := mb.cell 2; have f2 := mb.frozen 2)
        | fail)
      replace mb : Blk (x4.setCell ⟨w.heap.size, 2, none⟩ (.int .i64 ((c.turn + 1) % (c.outs.length : Int)))) w.heap.size #[.int .u32 (wb c.nx), (.slice (some ⟨g, o, none⟩) c.outs.length pp1), .int .i64 ((c.turn + 1) % (c.outs.length : Int)), .int .u32 (wb c.dl), (.slice G2 c.held.length pp2)] 26 := mb.set 2 _
      replace mr := mr.farAt (by omega) 2 (.int .i64 ((c.turn + 1) % (c.outs.length : Int))) (g' := w.heap.size)
      replace mo := mo.farAt (by omega) 2 (.int .i64 ((c.turn + 1) % (c.outs.length : Int))) (g' := w.heap.size)
      replace m7 := m7.farAt (by omega) 2 (.int .i64 ((c.turn + 1) % (c.outs.length : Int))) (g' := w.heap.size)
      replace hb := below_setCell hb (Nat.le_refl w.heap.size) 2 (.int .i64 ((c.turn + 1) % (c.outs.length : Int)))
      replace o1 := o1.upd ((Upd.refl _ _).setCell 2 (.int .i64 ((c.turn + 1) % (c.outs.length : Int)))) (show w.heap.size < w.heap.size + 3 by omega)
      replace o2 := o2.upd ((Upd.refl _ _).setCell 2 (.int .i64 ((c.turn + 1) % (c.outs.length : Int)))) (show w.heap.size < w.heap.size + 3 by omega)
      clear p2 f2
      generalize x4.setCell ⟨w.heap.size, 2, none⟩ (.int .i64 ((c.turn + 1) % (c.outs.length : Int))) = x5 at *
      refine mix_start (fun w' => Blk w' w.heap.size #[.int .u32 (wb c.nx), (.slice (some ⟨g, o, none⟩) c.outs.length pp1), .int .i64 ((c.turn + 1) % (c.outs.length : Int)), .int .u32 (wb c.dl), (.slice G2 c.held.length pp2)] 26 ∧ Blk w' g7 (outC x).toArray 39) (List.range 5) [2, 3] [0, 1] [] (by kernel_rfl) (by kernel_rfl) (fun d _ _ _ _ h => by cases d <;> exact h) ⟨mb.drew, m7.drew⟩ ?_
      replace mb := mb.drew
      replace mr := mr.drew
      replace mo := mo.drew
      replace m7 := m7.drew
      replace hb := hb.drew
      replace o1 := o1.drew
      replace o2 := o2.drew
      generalize x5.drew = x6 at *
      refine mix_load_row rfl rfl rfl rfl 26 _ rfl w.heap.size rfl #[.int .u32 (wb c.nx), (.slice (some ⟨g, o, none⟩) c.outs.length pp1), .int .i64 ((c.turn + 1) % (c.outs.length : Int)), .int .u32 (wb c.dl), (.slice G2 c.held.length pp2)] 26 (0, 0) _ (fun w' hS => hS.1) Try.underlying26 rfl (by exact sizeCv) ?_
      refine mix_load_row rfl rfl rfl rfl 39 _ rfl g7 rfl (outC x).toArray 39 (0, 0) _ (fun w' hS => hS.2) Try.underlying39 rfl (sizeOutC x HXL.out) ?_
      refine mix_eff rfl rfl (fun K hK => ?_)
      refine step_store_rowS rfl 26 _ _ rfl (w.heap.size + 1) #[.int .u32 (wb c.nx), (.slice (some ⟨g, o, none⟩) c.outs.length pp1), .int .i64 ((c.turn + 1) % (c.outs.length : Int)), .int .u32 (wb c.dl), (.slice G2 c.held.length pp2)] rfl rfl 26 _ mr (by exact sizeCv) (by simp) (by simp [Value.oneCell']) ?_
      replace mr := mr.row #[.int .u32 (wb c.nx), (.slice (some ⟨g, o, none⟩) c.outs.length pp1), .int .i64 ((c.turn + 1) % (c.outs.length : Int)), .int .u32 (wb c.dl), (.slice G2 c.held.length pp2)]
      replace mb := mb.farRow (show w.heap.size ≠ w.heap.size + 1 by omega) #[.int .u32 (wb c.nx), (.slice (some ⟨g, o, none⟩) c.outs.length pp1), .int .i64 ((c.turn + 1) % (c.outs.length : Int)), .int .u32 (wb c.dl), (.slice G2 c.held.length pp2)]
      replace mo := mo.farRow (show w.heap.size + 2 ≠ w.heap.size + 1 by omega) #[.int .u32 (wb c.nx), (.slice (some ⟨g, o, none⟩) c.outs.length pp1), .int .i64 ((c.turn + 1) % (c.outs.length : Int)), .int .u32 (wb c.dl), (.slice G2 c.held.length pp2)]
      replace m7 := m7.farRow (show g7 ≠ w.heap.size + 1 by omega) #[.int .u32 (wb c.nx), (.slice (some ⟨g, o, none⟩) c.outs.length pp1), .int .i64 ((c.turn + 1) % (c.outs.length : Int)), .int .u32 (wb c.dl), (.slice G2 c.held.length pp2)]
      replace hb := below_setRow hb (show w.heap.size ≤ w.heap.size + 1 by omega) #[.int .u32 (wb c.nx), (.slice (some ⟨g, o, none⟩) c.outs.length pp1), .int .i64 ((c.turn + 1) % (c.outs.length : Int)), .int .u32 (wb c.dl), (.slice G2 c.held.length pp2)]
      replace o1 := o1.upd ((Upd.refl _ _).setRow #[.int .u32 (wb c.nx), (.slice (some ⟨g, o, none⟩) c.outs.length pp1), .int .i64 ((c.turn + 1) % (c.outs.length : Int)), .int .u32 (wb c.dl), (.slice G2 c.held.length pp2)]) (show w.heap.size + 1 < w.heap.size + 3 by omega)
      replace o2 := o2.upd ((Upd.refl _ _).setRow #[.int .u32 (wb c.nx), (.slice (some ⟨g, o, none⟩) c.outs.length pp1), .int .i64 ((c.turn + 1) % (c.outs.length : Int)), .int .u32 (wb c.dl), (.slice G2 c.held.length pp2)]) (show w.heap.size + 1 < w.heap.size + 3 by omega)
      refine hK _ _ (fun _ _ => ⟨mb, m7⟩) ?_
      clear hK K
      generalize x6.setRow (w.heap.size + 1) #[.int .u32 (wb c.nx), (.slice (some ⟨g, o, none⟩) c.outs.length pp1), .int .i64 ((c.turn + 1) % (c.outs.length : Int)), .int .u32 (wb c.dl), (.slice G2 c.held.length pp2)] = x7 at *
      refine mix_eff rfl rfl (fun K hK => ?_)
      refine step_store_rowS rfl 39 _ _ rfl (w.heap.size + 2) (outC x).toArray rfl rfl 39 _ mo (sizeOutC x HXL.out) (by rw [zero39]; exact holdOutC ceZ x rfl HXL.out) (outC_one x) ?_
      replace mo := mo.row (outC x).toArray
      replace mb := mb.farRow (show w.heap.size ≠ w.heap.size + 2 by omega) (outC x).toArray
      replace mr := mr.farRow (show w.heap.size + 1 ≠ w.heap.size + 2 by omega) (outC x).toArray
      replace m7 := m7.farRow (show g7 ≠ w.heap.size + 2 by omega) (outC x).toArray
      replace hb := below_setRow hb (show w.heap.size ≤ w.heap.size + 2 by omega) (outC x).toArray
      replace o1 := o1.upd ((Upd.refl _ _).setRow (outC x).toArray) (show w.heap.size + 2 < w.heap.size + 3 by omega)
      replace o2 := o2.upd ((Upd.refl _ _).setRow (outC x).toArray) (show w.heap.size + 2 < w.heap.size + 3 by omega)
      refine hK _ _ (fun _ _ => ⟨mb, m7⟩) ?_
      clear hK K
      generalize x7.setRow (w.heap.size + 2) (outC x).toArray = x8 at *
      repeat (refine mix_pure rfl rfl (fun K hK => ?_); go_simp; refine hK _ ?_; clear hK K)
      refine mix_nil ?_
      go_wp2_with fail
      refine bodyPost_ret (results_cct rfl _ _ (w.heap.size + 1) (w.heap.size + 2) 26 39 _ _ _ _ _ _ _ rfl rfl rfl mr mo Try.underlying26 rfl (by exact sizeCv) Try.underlying39 rfl (sizeOutC x HXL.out)) rfl ?_
      exact ⟨_, rfl, ⟨_, _, rfl, o1.base (by omega), o2.base (by omega)⟩, hb⟩
end Go.Proofs.Ytjghhbollgggoaa
