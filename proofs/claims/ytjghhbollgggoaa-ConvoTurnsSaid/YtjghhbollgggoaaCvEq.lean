/- Lists and conversations held against each other (printed by gencveq.py). -/
import Derived.Test.YtjghhbollgggoaaCvRep
import Derived.Test.YtjghhbollgggoaaShr
namespace Go.Proofs.Ytjghhbollgggoaa
open Go.RowKit
set_option linter.unusedVariables false
set_option linter.unusedSimpArgs false
theorem take_step {α : Type} {l m : List α} {k : Nat} {x y : α} (hx : l[k]? = some x) (hy : m[k]? = some y) (h : l.take k = m.take k) (e : x = y) : l.take (k + 1) = m.take (k + 1) := by
  rw [List.take_add_one, List.take_add_one, h, hx, hy, e]
set_option maxRecDepth 100000 in
theorem equal_out {w : World} {v1 v2 : Value} {l1 l2 : List CE} (h1 : ArgE outEl w v1 l1) (h2 : ArgE outEl w v2 l2) (hn : l1.length ≤ 1099511627776) :
    Calls Try.prog 41 #[v1, v2] w fun e w' => e = .returned (.bool (l1 == l2)) ∧ Below w.heap.size w w' := by
  obtain ⟨A1, c1, rfl, hc1, ok1, hC1⟩ := h1
  obtain ⟨A2, c2, rfl, hc2, ok2, hC2⟩ := h2
  have HC1 := Lib.hid hC1
  have HC2 := Lib.hid hC2
  have OK1 := Lib.hid ok1
  have OK2 := Lib.hid ok2
  clear hC1 hC2 ok1 ok2 hc1 hc2
  by_cases hnm : l1.length = l2.length
  · obtain ⟨n, hn1⟩ : ∃ n, n = l1.length := ⟨_, rfl⟩
    rw [← hnm, ← hn1]
    rw [← hn1] at hnm hn
    have N1 := Lib.hid hn1.symm
    have N2 := Lib.hid hnm.symm
    clear hn1 hnm
    go_enter Try.func41, Try.ntmps41
    go_wp2_with fail
    go_loopw [13] (fun vi wr => ∃ k : Nat, k ≤ n ∧ vi = .int .i64 k ∧ l1.take k = l2.take k ∧ Below w.heap.size w wr) (fun vi _ => n - (intOf vi).toNat)
    case atStart => exact ⟨0, Nat.zero_le _, rfl, by simp, Below.refl _ _⟩
    case round =>
      obtain ⟨k, hk, rfl, htk, hb⟩ := hrel
      have HTK := Lib.hid htk
      clear htk
      by_cases hlt : k < n
      · have i1 : (k : Int) < (n : Int) := by omega
        have hk0 : (0 : Int) ≤ (k : Int) := Int.natCast_nonneg _
        obtain ⟨x1, hx1⟩ : ∃ x, l1[k]? = some x := ⟨_, List.getElem?_eq_getElem (by rw [N1.out]; exact hlt)⟩
        obtain ⟨x2, hx2⟩ : ∃ x, l2[k]? = some x := ⟨_, List.getElem?_eq_getElem (by rw [N2.out]; exact hlt)⟩
        obtain ⟨g1, o1, rfl, a1⟩ := cells_at OK1.out HC1.out hx1
        obtain ⟨g2, o2, rfl, a2⟩ := cells_at OK2.out HC2.out hx2
        have K1 := Lib.hid (OK1.out x1 (mem_of_get hx1))
        have K2 := Lib.hid (OK2.out x2 (mem_of_get hx2))
        have Q1 := Lib.hid (a1.below hb)
        have Q2 := Lib.hid (a2.below hb)
        have X1 := Lib.hid hx1
        have X2 := Lib.hid hx2
        have HLT := Lib.hid hlt
        have hne := neq_out x1 x2 K1.out K2.out
        have hgu := fun (p q : Operand) wx => run_eqGuard_agg (P := Try.prog) wx .neq 39 p q (outC x1).toArray (outC x2).toArray (by kernel_rfl)
        clear hlt a1 a2 hx1 hx2
        cases hq : (x1 == x2) with
        | false =>
          have HB2 := Lib.hid (show (l1 == l2) = false by
            rw [Bool.eq_false_iff]; intro hc
            have hc' : l1 = l2 := by simpa using hc
            have : x1 = x2 := by have h1 := X1.out; rw [hc', X2.out] at h1; exact (Option.some.inj h1).symm
            rw [this] at hq; simp at hq)
          rw [hq] at hne
          have HB := Lib.hid hb
          clear hq hb
          go_wp2_with fail
          refine mix_start (fun w' => Below wr.heap.size wr w') (List.range 9) [] [3, 7] [] (by kernel_rfl) (by kernel_rfl) (fun d _ _ _ _ h => by cases d <;> exact h) (Below.refl _ _).drew ?_
          refine mix_pure rfl rfl (fun K hK => ?_); go_simp; refine hK _ ?_; clear hK K
          refine mix_pure rfl rfl (fun K hK => ?_); go_simp; refine hK _ ?_; clear hK K
          refine mix_pure rfl rfl (fun K hK => ?_); go_simp; refine hK _ ?_; clear hK K
          refine mix_load_cells rfl rfl rfl rfl 39 _ rfl g1 (o1 + k * 106) rfl (outC x1) (fun w' hS => (Q1.out.below hS)) _ Try.underlying39 rfl (by rw [outC_length _ K1.out]; exact sizeOut) ?_
          generalize Value.agg (outC x1).toArray = V1 at *
          refine mix_pure rfl rfl (fun K hK => ?_); go_simp; refine hK _ ?_; clear hK K
          refine mix_pure rfl rfl (fun K hK => ?_); go_simp; refine hK _ ?_; clear hK K
          refine mix_pure rfl rfl (fun K hK => ?_); go_simp; refine hK _ ?_; clear hK K
          refine mix_load_cells rfl rfl rfl rfl 39 _ rfl g2 (o2 + k * 106) rfl (outC x2) (fun w' hS => (Q2.out.below hS)) _ Try.underlying39 rfl (by rw [outC_length _ K2.out]; exact sizeOut) ?_
          generalize Value.agg (outC x2).toArray = V2 at *
          refine mix_pure rfl rfl (fun K hK => ?_); go_simp; refine hK _ ?_; clear hK K
          refine mix_nil ?_
          go_wp2_with fail
          go_ret
          exact ⟨by rw [HB2.out]; rfl, HB.out.drew⟩
        | true =>
          have HS := Lib.hid (take_step X1.out X2.out HTK.out (by simpa using hq))
          rw [hq] at hne
          have HB := Lib.hid hb
          clear hq hb
          go_wp2_with fail
          refine mix_start (fun w' => Below wr.heap.size wr w') (List.range 9) [] [3, 7] [] (by kernel_rfl) (by kernel_rfl) (fun d _ _ _ _ h => by cases d <;> exact h) (Below.refl _ _).drew ?_
          refine mix_pure rfl rfl (fun K hK => ?_); go_simp; refine hK _ ?_; clear hK K
          refine mix_pure rfl rfl (fun K hK => ?_); go_simp; refine hK _ ?_; clear hK K
          refine mix_pure rfl rfl (fun K hK => ?_); go_simp; refine hK _ ?_; clear hK K
          refine mix_load_cells rfl rfl rfl rfl 39 _ rfl g1 (o1 + k * 106) rfl (outC x1) (fun w' hS => (Q1.out.below hS)) _ Try.underlying39 rfl (by rw [outC_length _ K1.out]; exact sizeOut) ?_
          generalize Value.agg (outC x1).toArray = V1 at *
          refine mix_pure rfl rfl (fun K hK => ?_); go_simp; refine hK _ ?_; clear hK K
          refine mix_pure rfl rfl (fun K hK => ?_); go_simp; refine hK _ ?_; clear hK K
          refine mix_pure rfl rfl (fun K hK => ?_); go_simp; refine hK _ ?_; clear hK K
          refine mix_load_cells rfl rfl rfl rfl 39 _ rfl g2 (o2 + k * 106) rfl (outC x2) (fun w' hS => (Q2.out.below hS)) _ Try.underlying39 rfl (by rw [outC_length _ K2.out]; exact sizeOut) ?_
          generalize Value.agg (outC x2).toArray = V2 at *
          refine mix_pure rfl rfl (fun K hK => ?_); go_simp; refine hK _ ?_; clear hK K
          refine mix_nil ?_
          go_wp2_with fail
          go_roundw
          case rel =>
            first | exact ⟨k + 1, by have := HLT.out; omega, by go_num, HS.out, HB.out.drew⟩ | ((repeat apply Exists.intro); exact ⟨⟨k + 1, by have := HLT.out; omega, by go_num, HS.out, HB.out.drew⟩, rfl⟩)
          case measure => simp [intOf]; have := HLT.out; omega
      · obtain rfl : k = n := by omega
        have HB2 := Lib.hid (show (l1 == l2) = true by
          have := HTK.out
          rw [List.take_of_length_le (by rw [N1.out]; exact Nat.le_refl _), List.take_of_length_le (by rw [N2.out]; exact Nat.le_refl _)] at this
          simp [this])
        go_wp2_with fail
        go_ret
        exact ⟨by rw [HB2.out]; rfl, hb⟩
  · have hi : ¬ (l1.length : Int) = (l2.length : Int) := by omega
    have HB2 := Lib.hid (show (l1 == l2) = false by rw [Bool.eq_false_iff]; intro hc; exact hnm (by rw [eq_of_beq hc]))
    clear hnm
    go_enter Try.func41, Try.ntmps41
    go_wp2_with fail
    go_ret
    exact ⟨by rw [HB2.out]; rfl, Below.refl _ _⟩
set_option maxRecDepth 100000 in
theorem equal_in {w : World} {v1 v2 : Value} {l1 l2 : List CE} (h1 : ArgE inEl w v1 l1) (h2 : ArgE inEl w v2 l2) (hn : l1.length ≤ 1099511627776) :
    Calls Try.prog 42 #[v1, v2] w fun e w' => e = .returned (.bool (l1 == l2)) ∧ Below w.heap.size w w' := by
  obtain ⟨A1, c1, rfl, hc1, ok1, hC1⟩ := h1
  obtain ⟨A2, c2, rfl, hc2, ok2, hC2⟩ := h2
  have HC1 := Lib.hid hC1
  have HC2 := Lib.hid hC2
  have OK1 := Lib.hid ok1
  have OK2 := Lib.hid ok2
  clear hC1 hC2 ok1 ok2 hc1 hc2
  by_cases hnm : l1.length = l2.length
  · obtain ⟨n, hn1⟩ : ∃ n, n = l1.length := ⟨_, rfl⟩
    rw [← hnm, ← hn1]
    rw [← hn1] at hnm hn
    have N1 := Lib.hid hn1.symm
    have N2 := Lib.hid hnm.symm
    clear hn1 hnm
    go_enter Try.func42, Try.ntmps42
    go_wp2_with fail
    go_loopw [13] (fun vi wr => ∃ k : Nat, k ≤ n ∧ vi = .int .i64 k ∧ l1.take k = l2.take k ∧ Below w.heap.size w wr) (fun vi _ => n - (intOf vi).toNat)
    case atStart => exact ⟨0, Nat.zero_le _, rfl, by simp, Below.refl _ _⟩
    case round =>
      obtain ⟨k, hk, rfl, htk, hb⟩ := hrel
      have HTK := Lib.hid htk
      clear htk
      by_cases hlt : k < n
      · have i1 : (k : Int) < (n : Int) := by omega
        have hk0 : (0 : Int) ≤ (k : Int) := Int.natCast_nonneg _
        obtain ⟨x1, hx1⟩ : ∃ x, l1[k]? = some x := ⟨_, List.getElem?_eq_getElem (by rw [N1.out]; exact hlt)⟩
        obtain ⟨x2, hx2⟩ : ∃ x, l2[k]? = some x := ⟨_, List.getElem?_eq_getElem (by rw [N2.out]; exact hlt)⟩
        obtain ⟨g1, o1, rfl, a1⟩ := cells_at OK1.out HC1.out hx1
        obtain ⟨g2, o2, rfl, a2⟩ := cells_at OK2.out HC2.out hx2
        have K1 := Lib.hid (OK1.out x1 (mem_of_get hx1))
        have K2 := Lib.hid (OK2.out x2 (mem_of_get hx2))
        have Q1 := Lib.hid (a1.below hb)
        have Q2 := Lib.hid (a2.below hb)
        have X1 := Lib.hid hx1
        have X2 := Lib.hid hx2
        have HLT := Lib.hid hlt
        have hne := neq_in x1 x2
        have hgu := fun (p q : Operand) wx => run_eqGuard_agg (P := Try.prog) wx .neq 55 p q (inC x1).toArray (inC x2).toArray (by kernel_rfl)
        clear hlt a1 a2 hx1 hx2
        cases hq : (x1 == x2) with
        | false =>
          have HB2 := Lib.hid (show (l1 == l2) = false by
            rw [Bool.eq_false_iff]; intro hc
            have hc' : l1 = l2 := by simpa using hc
            have : x1 = x2 := by have h1 := X1.out; rw [hc', X2.out] at h1; exact (Option.some.inj h1).symm
            rw [this] at hq; simp at hq)
          rw [hq] at hne
          have HB := Lib.hid hb
          clear hq hb
          go_wp2_with fail
          refine mix_start (fun w' => Below wr.heap.size wr w') (List.range 9) [] [3, 7] [] (by kernel_rfl) (by kernel_rfl) (fun d _ _ _ _ h => by cases d <;> exact h) (Below.refl _ _).drew ?_
          refine mix_pure rfl rfl (fun K hK => ?_); go_simp; refine hK _ ?_; clear hK K
          refine mix_pure rfl rfl (fun K hK => ?_); go_simp; refine hK _ ?_; clear hK K
          refine mix_pure rfl rfl (fun K hK => ?_); go_simp; refine hK _ ?_; clear hK K
          refine mix_load_cells rfl rfl rfl rfl 55 _ rfl g1 (o1 + k * 2) rfl (inC x1) (fun w' hS => (Q1.out.below hS)) _ Try.underlying55 rfl (by exact sizeIn) ?_
          generalize Value.agg (inC x1).toArray = V1 at *
          refine mix_pure rfl rfl (fun K hK => ?_); go_simp; refine hK _ ?_; clear hK K
          refine mix_pure rfl rfl (fun K hK => ?_); go_simp; refine hK _ ?_; clear hK K
          refine mix_pure rfl rfl (fun K hK => ?_); go_simp; refine hK _ ?_; clear hK K
          refine mix_load_cells rfl rfl rfl rfl 55 _ rfl g2 (o2 + k * 2) rfl (inC x2) (fun w' hS => (Q2.out.below hS)) _ Try.underlying55 rfl (by exact sizeIn) ?_
          generalize Value.agg (inC x2).toArray = V2 at *
          refine mix_pure rfl rfl (fun K hK => ?_); go_simp; refine hK _ ?_; clear hK K
          refine mix_nil ?_
          go_wp2_with fail
          go_ret
          exact ⟨by rw [HB2.out]; rfl, HB.out.drew⟩
        | true =>
          have HS := Lib.hid (take_step X1.out X2.out HTK.out (by simpa using hq))
          rw [hq] at hne
          have HB := Lib.hid hb
          clear hq hb
          go_wp2_with fail
          refine mix_start (fun w' => Below wr.heap.size wr w') (List.range 9) [] [3, 7] [] (by kernel_rfl) (by kernel_rfl) (fun d _ _ _ _ h => by cases d <;> exact h) (Below.refl _ _).drew ?_
          refine mix_pure rfl rfl (fun K hK => ?_); go_simp; refine hK _ ?_; clear hK K
          refine mix_pure rfl rfl (fun K hK => ?_); go_simp; refine hK _ ?_; clear hK K
          refine mix_pure rfl rfl (fun K hK => ?_); go_simp; refine hK _ ?_; clear hK K
          refine mix_load_cells rfl rfl rfl rfl 55 _ rfl g1 (o1 + k * 2) rfl (inC x1) (fun w' hS => (Q1.out.below hS)) _ Try.underlying55 rfl (by exact sizeIn) ?_
          generalize Value.agg (inC x1).toArray = V1 at *
          refine mix_pure rfl rfl (fun K hK => ?_); go_simp; refine hK _ ?_; clear hK K
          refine mix_pure rfl rfl (fun K hK => ?_); go_simp; refine hK _ ?_; clear hK K
          refine mix_pure rfl rfl (fun K hK => ?_); go_simp; refine hK _ ?_; clear hK K
          refine mix_load_cells rfl rfl rfl rfl 55 _ rfl g2 (o2 + k * 2) rfl (inC x2) (fun w' hS => (Q2.out.below hS)) _ Try.underlying55 rfl (by exact sizeIn) ?_
          generalize Value.agg (inC x2).toArray = V2 at *
          refine mix_pure rfl rfl (fun K hK => ?_); go_simp; refine hK _ ?_; clear hK K
          refine mix_nil ?_
          go_wp2_with fail
          go_roundw
          case rel =>
            first | exact ⟨k + 1, by have := HLT.out; omega, by go_num, HS.out, HB.out.drew⟩ | ((repeat apply Exists.intro); exact ⟨⟨k + 1, by have := HLT.out; omega, by go_num, HS.out, HB.out.drew⟩, rfl⟩)
          case measure => simp [intOf]; have := HLT.out; omega
      · obtain rfl : k = n := by omega
        have HB2 := Lib.hid (show (l1 == l2) = true by
          have := HTK.out
          rw [List.take_of_length_le (by rw [N1.out]; exact Nat.le_refl _), List.take_of_length_le (by rw [N2.out]; exact Nat.le_refl _)] at this
          simp [this])
        go_wp2_with fail
        go_ret
        exact ⟨by rw [HB2.out]; rfl, hb⟩
  · have hi : ¬ (l1.length : Int) = (l2.length : Int) := by omega
    have HB2 := Lib.hid (show (l1 == l2) = false by rw [Bool.eq_false_iff]; intro hc; exact hnm (by rw [eq_of_beq hc]))
    clear hnm
    go_enter Try.func42, Try.ntmps42
    go_wp2_with fail
    go_ret
    exact ⟨by rw [HB2.out]; rfl, Below.refl _ _⟩
def sameB (a b : Cv) : Bool := wb a.nx == wb b.nx && a.turn == b.turn && wb a.dl == wb b.dl && a.outs == b.outs && a.held == b.held
theorem sameB_iff (a b : Cv) : sameB a b = true ↔ a = b := by
  obtain ⟨n1, o1, t1, d1, h1⟩ := a
  obtain ⟨n2, o2, t2, d2, h2⟩ := b
  simp only [sameB, Bool.and_eq_true, beq_iff_eq, wb_inj, Cv.mk.injEq]
  constructor
  · rintro ⟨⟨⟨⟨a, b⟩, c⟩, d⟩, e⟩; exact ⟨a, d, b, c, e⟩
  · rintro ⟨a, b, c, d, e⟩; exact ⟨⟨⟨⟨a, c⟩, d⟩, b⟩, e⟩
set_option maxHeartbeats 4000000 in
theorem same_any {a b : Cv} {v1 v2 : Value} (w : World) (h1 : ArgC w v1 a) (h2 : ArgC w v2 b) (hn : a.outs.length ≤ 1099511627776) (hm : a.held.length ≤ 1099511627776) :
    Calls Try.prog 24 #[v1, v2] w fun e w' => e = .returned (.bool (sameB a b)) ∧ Below w.heap.size w w' := by
  obtain ⟨vo1, vi1, rfl, ho1, hi1⟩ := h1
  obtain ⟨vo2, vi2, rfl, ho2, hi2⟩ := h2
  have hn2 : Below w.heap.size w ((w.alloc (.cells (cvA a vo1 vi1) 26)).alloc (.cells (cvA b vo2 vi2) 26)) := ((Below.refl _ _).alloc (Nat.le_refl _) _).alloc (by simp) _
  have mA := (Blk.new w (cvA a vo1 vi1) 26).alloc (.cells (cvA b vo2 vi2) 26)
  have mB := Blk.new (w.alloc (.cells (cvA a vo1 vi1) 26)) (cvA b vo2 vi2) 26
  rw [show (w.alloc (.cells (cvA a vo1 vi1) 26)).heap.size = w.heap.size + 1 by simp] at mB
  have EO := Lib.hid (fun wx (hb : Below w.heap.size w wx) => equal_out (ho1.below hb) (ho2.below hb) hn)
  have EI := Lib.hid (fun wx (hb : Below w.heap.size w wx) => equal_in (hi1.below hb) (hi2.below hb) hm)
  obtain ⟨A1, p1, rfl, -, -, -⟩ := ho1
  obtain ⟨A2, p2, rfl, -, -, -⟩ := ho2
  obtain ⟨A3, p3, rfl, -, -, -⟩ := hi1
  obtain ⟨A4, p4, rfl, -, -, -⟩ := hi2
  clear hn hm
  unfold sameB
  unfold cvA at *
  go_enter Try.func24, Try.ntmps24
  cases q0 : (wb a.nx == wb b.nx) with
  | false =>
    go_wp2_with fail
    go_ret
    exact ⟨rfl, hn2⟩
  | true =>
    cases q1 : (a.turn == b.turn) with
    | false =>
      go_wp2_with fail
      go_ret
      exact ⟨rfl, hn2⟩
    | true =>
      cases q2 : (wb a.dl == wb b.dl) with
      | false =>
        go_wp2_with fail
        go_ret
        exact ⟨rfl, hn2⟩
      | true =>
        cases q3 : (a.outs == b.outs) with
        | false =>
          rw [q3] at EO
          go_wp2_with fail
          refine (EO.out _ hn2).mono ?_
          rintro e w1 ⟨rfl, hb1⟩
          have hn3 := hn2.trans (hb1.mono hn2.size)
          go_wp2_with fail
          go_ret
          exact ⟨rfl, hn3⟩
        | true =>
          rw [q3] at EO
          go_wp2_with fail
          refine (EO.out _ hn2).mono ?_
          rintro e w1 ⟨rfl, hb1⟩
          have hn3 := hn2.trans (hb1.mono hn2.size)
          have pA4 := (mA.below hb1 mA.lt).cell 4
          have pB4 := (mB.below hb1 mB.lt).cell 4
          go_wp2_with fail
          refine (EI.out _ hn3).mono ?_
          rintro e w2 ⟨rfl, hb2⟩
          go_wp2_with fail
          go_ret
          exact ⟨rfl, hn3.trans (hb2.mono hn3.size)⟩
end Go.Proofs.Ytjghhbollgggoaa
