/- Whether a conversation may be: convo's Check (printed by gencheck.py). -/
import Derived.Test.YtjghhbollgggoaaCvHolds
import Derived.Test.YtjghhbollgggoaaCvEq
namespace Go.Proofs.Ytjghhbollgggoaa
open Go.RowKit
set_option linter.unusedVariables false
set_option linter.unusedSimpArgs false
attribute [local go_sem] max_imax
def seqOk (b : BitVec 32) : Nat → List CE → Bool
  | _, [] => true
  | i, x :: l => decide (wb x.1 = wb (b + BitVec.ofNat 32 i)) && seqOk b (i + 1) l
def rightC (c : Cv) : Bool := decide (wb c.nx ≤ 2147483648) && decide (wb c.dl ≤ 2147483648) && decide (c.outs.length ≤ 4) && decide ((c.outs.length : Int) ≤ wb c.nx) && decide (0 ≤ c.turn) && decide (c.turn ≤ ((c.outs.length - 1 : Nat) : Int)) && holdsB c.dl c.held && seqOk (c.nx - BitVec.ofNat 32 c.outs.length) 0 c.outs
theorem wpList_load_last_g {P : Program} {ops : Array Oper} {rest : List Oper} {o : Oper} {a : Act} {w : World} {Q : Exit → Act → World → Prop} (hw : Region.wanted o (yielded ops a.tmps) = true) (ty : TypeId) (x : Operand) (ho : o.op = .load ty x) (g : Nat) (cs : Array Value) (t : TypeId) (d : TypeDesc)
    (hx : a.eval x = .pointer (some ⟨g, 0, none⟩)) (hg : g = w.heap.size) (hu : P.underlying ty = some d) (hd : (match d with | .struct _ | .array _ _ => true | _ => false) = true) (hi : (P.info? ty).map (·.size) = some cs.size)
    (h : wpList P ops Q rest (a.put o.dst (.agg cs)) (w.alloc (.cells cs t))) : wpList P ops Q (o :: rest) a (w.alloc (.cells cs t)) := by
  subst hg
  exact wpList_load_row_ga hw ty x ho _ hx t cs _ d (heap_alloc_new w _) hu hd hi h
set_option maxRecDepth 100000 in
set_option maxHeartbeats 8000000 in
theorem check_any {c : Cv} {v : Value} (w : World) (h : ArgC w v c) (hn : c.outs.length ≤ 1099511627776) (hm : c.held.length ≤ 1099511627776) :
    Calls Try.prog 15 #[v] w fun e w' => e = .returned (.int .i64 (if rightC c then 0 else 281)) ∧ Below w.heap.size w w' := by
  obtain ⟨nx, outs, turn, dl, held⟩ := c
  obtain ⟨vo, vi, rfl, ⟨A, p, rfl, -, ok, hC⟩, hi⟩ := h
  simp only [cvA] at *
  have HOK := Lib.hid ok
  have HC := Lib.hid hC
  clear ok hC
  obtain ⟨n, hm1⟩ : ∃ n, n = outs.length := ⟨_, rfl⟩
  rw [← hm1] at hn ⊢
  have HM := Lib.hid hm1.symm
  clear hm1
  have HHA := Lib.hid (fun wx (hb : Below w.heap.size w wx) => holds_any (nx := nx) (dl := dl) (turn := turn) (outs := outs) (vo := .slice A n p) wx (hi.below hb) hm)
  have HNN := Lib.hid hn
  obtain ⟨E, hE⟩ : ∃ E : Int, E = if rightC ⟨nx, outs, turn, dl, held⟩ then 0 else 281 := ⟨_, rfl⟩
  rw [← hE]
  have HE := Lib.hid hE
  clear hE
  obtain ⟨A3, p3, rfl, -⟩ := hi
  have hwn : IntKind.i64.wrap (wb nx) = wb nx := IntWalk.i64_in _ (by have := wb_lt nx; have := wb_nonneg nx; omega)
  have hnb : (n : Int) ≤ 1099511627776 := by omega
  clear hm hn
  have mb := Blk.new w #[.int .u32 (wb nx), .slice A n p, .int .i64 turn, .int .u32 (wb dl), (.slice A3 held.length p3)] 26
  have hb : Below w.heap.size w (w.alloc (.cells #[.int .u32 (wb nx), .slice A n p, .int .i64 turn, .int .u32 (wb dl), (.slice A3 held.length p3)] 26)) := (Below.refl _ _).alloc (Nat.le_refl _) _
  go_enter Try.func15, Try.ntmps15
  by_cases h1 : wb nx ≤ 2147483648
  · by_cases h2 : wb dl ≤ 2147483648
    · by_cases h3 : n ≤ 4
      · by_cases h4 : (n : Int) ≤ wb nx
        · by_cases h5 : 0 ≤ turn
          · by_cases h6 : turn ≤ ((n - 1 : Nat) : Int)
            · have HCH := Lib.hid (And.intro h1 (And.intro h2 (And.intro h3 (And.intro h4 (And.intro h5 h6)))))
              have q1 : decide (2147483648 < wb nx) = false := by simp only [decide_eq_false_iff_not, decide_eq_true_eq]; omega
              have q2 : decide (2147483648 < wb dl) = false := by simp only [decide_eq_false_iff_not, decide_eq_true_eq]; omega
              have q3 : decide (4 < (n : Int)) = false := by simp only [decide_eq_false_iff_not, decide_eq_true_eq]; omega
              have q4 : decide (wb nx < (n : Int)) = false := by simp only [decide_eq_false_iff_not, decide_eq_true_eq]; omega
              have q5 : decide (turn < 0) = false := by simp only [decide_eq_false_iff_not, decide_eq_true_eq]; omega
              have q6 : decide (((n - 1 : Nat) : Int) < turn) = false := by simp only [decide_eq_false_iff_not, decide_eq_true_eq]; omega
              have himx : imax ((n : Int) - 1) 0 = ((n - 1 : Nat) : Int) := by unfold imax; split <;> omega
              clear h1 h2 h3 h4 h5 h6
              cases hh : holdsB dl held with
              | false =>
                have HR := Lib.hid (show rightC ⟨nx, outs, turn, dl, held⟩ = false by
                  unfold rightC
                  simp only [hh, Bool.and_false, Bool.false_and])
                rw [hh] at HHA
                go_wp2_with (first | (refine wpList_load_last_g rfl 26 _ rfl _ #[.int .u32 (wb nx), .slice A n p, .int .i64 turn, .int .u32 (wb dl), (.slice A3 held.length p3)] 26 _ rfl rfl Try.underlying26 rfl (by exact sizeCv) ?_) | fail)
                refine (HHA.out _ hb).mono ?_
                rintro e w1 ⟨rfl, hn⟩
                replace hb := hb.trans (hn.mono hb.size)
                clear hn
                go_wp2_with fail
                go_ret
                exact ⟨by rw [HE.out, HR.out]; rfl, hb⟩
              | true =>
                have HHO := Lib.hid hh
                rw [hh] at HHA
                clear hh
                go_wp2_with (first | (refine wpList_load_last_g rfl 26 _ rfl _ #[.int .u32 (wb nx), .slice A n p, .int .i64 turn, .int .u32 (wb dl), (.slice A3 held.length p3)] 26 _ rfl rfl Try.underlying26 rfl (by exact sizeCv) ?_) | fail)
                refine (HHA.out _ hb).mono ?_
                rintro e w1 ⟨rfl, hn⟩
                replace hb := hb.trans (hn.mono hb.size)
                replace mb := mb.below hn mb.lt
                have pm := mb.cell 1
                clear hn
                go_wp2_with fail
                go_loopw [49] (fun vi_ wr => ∃ k, k ≤ n ∧ vi_ = .int .i64 (k : Nat) ∧ seqOk (nx - BitVec.ofNat 32 n) k (outs.drop k) = seqOk (nx - BitVec.ofNat 32 n) 0 outs ∧ Blk wr w.heap.size #[.int .u32 (wb nx), .slice A n p, .int .i64 turn, .int .u32 (wb dl), (.slice A3 held.length p3)] 26 ∧ Below w.heap.size w wr) (fun vi_ _ => n - (intOf vi_).toNat)
                case atStart => exact ⟨0, Nat.zero_le _, rfl, rfl, mb, hb⟩
                case round =>
                  clear mb hb
                  obtain ⟨k, hk, rfl, hrel, mb, hb⟩ := hrel
                  have HREL := Lib.hid hrel
                  clear hrel
                  by_cases hlt : k < n
                  · have i1 : (k : Int) < (n : Int) := by omega
                    have hk0 : (0 : Int) ≤ (k : Int) := Int.natCast_nonneg _
                    obtain ⟨x, hx⟩ : ∃ x, outs[k]? = some x := ⟨_, List.getElem?_eq_getElem (by rw [HM.out]; exact hlt)⟩
                    obtain ⟨g, o, rfl, hat⟩ := cells_at HOK.out HC.out hx
                    have HK := Lib.hid (HOK.out x (mem_of_get hx))
                    have HX := Lib.hid hx
                    have HLT := Lib.hid hlt
                    have HAT := Lib.hid (hat.below hb)
                    have HO1 : Hid ((outC x).toArray.all (·.oneCell') = true) := by
                      show _ = _
                      rw [Array.all_eq_true_iff_forall_mem]
                      intro u hu
                      exact outEl.one x HK.out u (show u ∈ outC x by simpa using hu)
                    have hal : Below wr.heap.size wr (wr.alloc (.cells (outC x).toArray 39)) := (Below.refl _ _).alloc (Nat.le_refl _) _
                    have mo := Blk.new wr (outC x).toArray 39
                    replace mb := mb.below hal mb.lt
                    replace hb := hb.trans (hal.mono hb.size)
                    have pd := mb.cell 0
                    have po : (wr.alloc (.cells (outC x).toArray 39)).cell? ⟨wr.heap.size, 0, none⟩ = some (.int .u32 (wb x.1)) := mo.cell 0
                    have e1 : IntKind.u32.wrap (n : Int) = wb (BitVec.ofNat 32 n) := wrap_nat isU32 _
                    have e2 : IntKind.u32.wrap (k : Int) = wb (BitVec.ofNat 32 k) := wrap_nat isU32 _
                    have e3 : IntKind.u32.wrap (wb nx - wb (BitVec.ofNat 32 n)) = wb (nx - BitVec.ofNat 32 n) := wrap_sub isU32 _ _
                    have e4 : IntKind.u32.wrap (wb (nx - BitVec.ofNat 32 n) + wb (BitVec.ofNat 32 k)) = wb (nx - BitVec.ofNat 32 n + BitVec.ofNat 32 k) := wrap_add isU32 _ _
                    clear hat hal hx hlt mo
                    by_cases hs : wb x.1 = wb (nx - BitVec.ofNat 32 n + BitVec.ofNat 32 k)
                    · have HS := Lib.hid (show seqOk (nx - BitVec.ofNat 32 n) (k + 1) (outs.drop (k + 1)) = seqOk (nx - BitVec.ofNat 32 n) 0 outs by
                        rw [← HREL.out, drop_at HX.out, seqOk, hs]
                        simp)
                      rw [hs] at po
                      clear hs
                      generalize nx - BitVec.ofNat 32 n + BitVec.ofNat 32 k = sq at *
                      generalize hgb : nx - BitVec.ofNat 32 n = bq at *
                      go_wp2_with (first | (refine wpList_load_cells rfl 39 _ rfl g (o + k * 106) rfl (outC x) HAT.out _ Try.underlying39 rfl (by rw [outC_length _ HK.out]; exact sizeOut) ?_) | (refine wpList_store_last rfl 39 _ _ rfl _ _ (outC x).toArray 39 rfl rfl rfl (by show _ = some (outC x).length; rw [outC_length x HK.out]; exact sizeOut) (by show _ = (outC x).length; rw [outC_length x HK.out]; kernel_rfl) HO1.out ?_; generalize wr.alloc (.cells (outC x).toArray 39) = w2 at *) | fail)
                      exact ⟨⟨k + 1, by have := HLT.out; omega, by go_num, HS.out, mb, hb⟩, by simp [intOf]; have := HLT.out; omega⟩
                    · have HS := Lib.hid (show seqOk (nx - BitVec.ofNat 32 n) 0 outs = false by
                        rw [← HREL.out, drop_at HX.out, seqOk, decide_eq_false hs]
                        rfl)
                      have HR := Lib.hid (show rightC ⟨nx, outs, turn, dl, held⟩ = false by
                        unfold rightC
                        simp only [HM.out, HS.out, Bool.and_false])
                      have hs2 : (wb x.1 != wb (nx - BitVec.ofNat 32 n + BitVec.ofNat 32 k)) = true := bne_iff_ne.2 hs
                      go_wp2_with (first | (refine wpList_load_cells rfl 39 _ rfl g (o + k * 106) rfl (outC x) HAT.out _ Try.underlying39 rfl (by rw [outC_length _ HK.out]; exact sizeOut) ?_) | (refine wpList_store_last rfl 39 _ _ rfl _ _ (outC x).toArray 39 rfl rfl rfl (by show _ = some (outC x).length; rw [outC_length x HK.out]; exact sizeOut) (by show _ = (outC x).length; rw [outC_length x HK.out]; kernel_rfl) HO1.out ?_; generalize wr.alloc (.cells (outC x).toArray 39) = w2 at *) | fail)
                      go_ret
                      exact ⟨by rw [HE.out, HR.out]; rfl, hb⟩
                  · obtain rfl : n = k := by omega
                    have HR := Lib.hid (show rightC ⟨nx, outs, turn, dl, held⟩ = true by
                      have hse : seqOk (nx - BitVec.ofNat 32 n) 0 outs = true := by
                        rw [← HREL.out, List.drop_of_length_le (by rw [HM.out]; exact Nat.le_refl _)]; rfl
                      unfold rightC
                      simp only [HM.out, hse, HCH.out.1, HCH.out.2.1, HCH.out.2.2.1, HCH.out.2.2.2.1, HCH.out.2.2.2.2.1, HCH.out.2.2.2.2.2, HHO.out, decide_true, Bool.true_and])
                    go_wp2_with fail
                    go_ret
                    exact ⟨by rw [HE.out, HR.out]; rfl, hb⟩
            · have HR := Lib.hid (show rightC ⟨nx, outs, turn, dl, held⟩ = false by
                unfold rightC
                simp only [HM.out, h1, h2, h3, h4, h5, h6, decide_false, decide_true, Bool.and_false, Bool.false_and, Bool.true_and])
              have q1 : decide (2147483648 < wb nx) = false := by simp only [decide_eq_false_iff_not, decide_eq_true_eq]; omega
              have q2 : decide (2147483648 < wb dl) = false := by simp only [decide_eq_false_iff_not, decide_eq_true_eq]; omega
              have q3 : decide (4 < (n : Int)) = false := by simp only [decide_eq_false_iff_not, decide_eq_true_eq]; omega
              have q4 : decide (wb nx < (n : Int)) = false := by simp only [decide_eq_false_iff_not, decide_eq_true_eq]; omega
              have q5 : decide (turn < 0) = false := by simp only [decide_eq_false_iff_not, decide_eq_true_eq]; omega
              have q6 : decide (((n - 1 : Nat) : Int) < turn) = true := by simp only [decide_eq_false_iff_not, decide_eq_true_eq]; omega
              have himx : imax ((n : Int) - 1) 0 = ((n - 1 : Nat) : Int) := by unfold imax; split <;> omega
              clear h1 h2 h3 h4 h5 h6
              go_wp2_with fail
              go_ret
              exact ⟨by rw [HE.out, HR.out]; rfl, hb⟩
          · have HR := Lib.hid (show rightC ⟨nx, outs, turn, dl, held⟩ = false by
              unfold rightC
              simp only [HM.out, h1, h2, h3, h4, h5, decide_false, decide_true, Bool.and_false, Bool.false_and, Bool.true_and])
            have q1 : decide (2147483648 < wb nx) = false := by simp only [decide_eq_false_iff_not, decide_eq_true_eq]; omega
            have q2 : decide (2147483648 < wb dl) = false := by simp only [decide_eq_false_iff_not, decide_eq_true_eq]; omega
            have q3 : decide (4 < (n : Int)) = false := by simp only [decide_eq_false_iff_not, decide_eq_true_eq]; omega
            have q4 : decide (wb nx < (n : Int)) = false := by simp only [decide_eq_false_iff_not, decide_eq_true_eq]; omega
            have q5 : decide (turn < 0) = true := by simp only [decide_eq_false_iff_not, decide_eq_true_eq]; omega
            clear h1 h2 h3 h4 h5
            go_wp2_with fail
            go_ret
            exact ⟨by rw [HE.out, HR.out]; rfl, hb⟩
        · have HR := Lib.hid (show rightC ⟨nx, outs, turn, dl, held⟩ = false by
            unfold rightC
            simp only [HM.out, h1, h2, h3, h4, decide_false, decide_true, Bool.and_false, Bool.false_and, Bool.true_and])
          have q1 : decide (2147483648 < wb nx) = false := by simp only [decide_eq_false_iff_not, decide_eq_true_eq]; omega
          have q2 : decide (2147483648 < wb dl) = false := by simp only [decide_eq_false_iff_not, decide_eq_true_eq]; omega
          have q3 : decide (4 < (n : Int)) = false := by simp only [decide_eq_false_iff_not, decide_eq_true_eq]; omega
          have q4 : decide (wb nx < (n : Int)) = true := by simp only [decide_eq_false_iff_not, decide_eq_true_eq]; omega
          clear h1 h2 h3 h4
          go_wp2_with fail
          go_ret
          exact ⟨by rw [HE.out, HR.out]; rfl, hb⟩
      · have HR := Lib.hid (show rightC ⟨nx, outs, turn, dl, held⟩ = false by
          unfold rightC
          simp only [HM.out, h1, h2, h3, decide_false, decide_true, Bool.and_false, Bool.false_and, Bool.true_and])
        have q1 : decide (2147483648 < wb nx) = false := by simp only [decide_eq_false_iff_not, decide_eq_true_eq]; omega
        have q2 : decide (2147483648 < wb dl) = false := by simp only [decide_eq_false_iff_not, decide_eq_true_eq]; omega
        have q3 : decide (4 < (n : Int)) = true := by simp only [decide_eq_false_iff_not, decide_eq_true_eq]; omega
        clear h1 h2 h3
        go_wp2_with fail
        go_ret
        exact ⟨by rw [HE.out, HR.out]; rfl, hb⟩
    · have HR := Lib.hid (show rightC ⟨nx, outs, turn, dl, held⟩ = false by
        unfold rightC
        simp only [HM.out, h1, h2, decide_false, decide_true, Bool.and_false, Bool.false_and, Bool.true_and])
      have q1 : decide (2147483648 < wb nx) = false := by simp only [decide_eq_false_iff_not, decide_eq_true_eq]; omega
      have q2 : decide (2147483648 < wb dl) = true := by simp only [decide_eq_false_iff_not, decide_eq_true_eq]; omega
      clear h1 h2
      go_wp2_with fail
      go_ret
      exact ⟨by rw [HE.out, HR.out]; rfl, hb⟩
  · have HR := Lib.hid (show rightC ⟨nx, outs, turn, dl, held⟩ = false by
      unfold rightC
      simp only [HM.out, h1, decide_false, decide_true, Bool.and_false, Bool.false_and, Bool.true_and])
    have q1 : decide (2147483648 < wb nx) = true := by simp only [decide_eq_false_iff_not, decide_eq_true_eq]; omega
    clear h1
    go_wp2_with fail
    go_ret
    exact ⟨by rw [HE.out, HR.out]; rfl, hb⟩
end Go.Proofs.Ytjghhbollgggoaa
