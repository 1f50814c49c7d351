/- The reference's Same (printed by genrsame.py). -/
import Derived.Test.YtjghhbollgggoaaCvEq
namespace Go.Proofs.Ytjghhbollgggoaa
open Go.RowKit
set_option linter.unusedVariables false
set_option linter.unusedSimpArgs false
set_option maxRecDepth 100000 in
set_option maxHeartbeats 8000000 in
theorem rsame_any {a b : Cv} {v1 v2 : Value} (w : World) (h1 : ArgC w v1 a) (h2 : ArgC w v2 b) (hn : a.outs.length ≤ 1099511627776) (hm : a.held.length ≤ 1099511627776) :
    Calls Try.prog 19 #[v1, v2] w fun e w' => e = .returned (.bool (sameB a b)) ∧ Below w.heap.size w w' := by
  obtain ⟨an, aouts, at_, ad, aheld⟩ := a
  obtain ⟨bn, bouts, bt, bd, bheld⟩ := b
  obtain ⟨vo1, vi1, rfl, ⟨A1, p1, rfl, -, ok1, hC1⟩, ⟨A3, p3, rfl, -, ok3, hC3⟩⟩ := h1
  obtain ⟨vo2, vi2, rfl, ⟨A2, p2, rfl, -, ok2, hC2⟩, ⟨A4, p4, rfl, -, ok4, hC4⟩⟩ := h2
  simp only [cvA] at *
  have OK1 := Lib.hid ok1
  have HC1 := Lib.hid hC1
  clear ok1 hC1
  have OK2 := Lib.hid ok2
  have HC2 := Lib.hid hC2
  clear ok2 hC2
  have OK3 := Lib.hid ok3
  have HC3 := Lib.hid hC3
  clear ok3 hC3
  have OK4 := Lib.hid ok4
  have HC4 := Lib.hid hC4
  clear ok4 hC4
  cases q0 : (wb an == wb bn) with
  | false =>
    have r0 : ¬ wb an = wb bn := by simpa using q0
    have r1 : (wb an != wb bn) = true := by simpa using q0
    have hb : Below w.heap.size w ((w.alloc (.cells #[.int .u32 (wb an), .slice A1 aouts.length p1, .int .i64 at_, .int .u32 (wb ad), .slice A3 aheld.length p3] 26)).alloc (.cells #[.int .u32 (wb bn), .slice A2 bouts.length p2, .int .i64 bt, .int .u32 (wb bd), .slice A4 bheld.length p4] 26)) := ((Below.refl _ _).alloc (Nat.le_refl _) _).alloc (by simp) _
    have HB2 := Lib.hid (show sameB ⟨an, aouts, at_, ad, aheld⟩ ⟨bn, bouts, bt, bd, bheld⟩ = false by
      rw [Bool.eq_false_iff]; intro hc
      have hc' := (sameB_iff _ _).1 hc
      simp only [Cv.mk.injEq] at hc'
      rw [hc'.1] at q0; simp at q0)
    go_enter Try.func19, Try.ntmps19
    go_wp2_with fail
    go_ret
    exact ⟨by rw [HB2.out]; rfl, hb⟩
  | true =>
    obtain rfl : an = bn := wb_inj.1 (by simpa using q0)
    cases q1 : (at_ == bt) with
    | false =>
      have r0 : ¬ at_ = bt := by simpa using q1
      have r1 : (at_ != bt) = true := by simpa using q1
      have hb : Below w.heap.size w ((w.alloc (.cells #[.int .u32 (wb an), .slice A1 aouts.length p1, .int .i64 at_, .int .u32 (wb ad), .slice A3 aheld.length p3] 26)).alloc (.cells #[.int .u32 (wb an), .slice A2 bouts.length p2, .int .i64 bt, .int .u32 (wb bd), .slice A4 bheld.length p4] 26)) := ((Below.refl _ _).alloc (Nat.le_refl _) _).alloc (by simp) _
      have HB2 := Lib.hid (show sameB ⟨an, aouts, at_, ad, aheld⟩ ⟨an, bouts, bt, bd, bheld⟩ = false by
        rw [Bool.eq_false_iff]; intro hc
        have hc' := (sameB_iff _ _).1 hc
        simp only [Cv.mk.injEq] at hc'
        rw [hc'.2.2.1] at q1; simp at q1)
      go_enter Try.func19, Try.ntmps19
      go_wp2_with fail
      go_ret
      exact ⟨by rw [HB2.out]; rfl, hb⟩
    | true =>
      obtain rfl : at_ = bt := by simpa using q1
      cases q2 : (wb ad == wb bd) with
      | false =>
        have r0 : ¬ wb ad = wb bd := by simpa using q2
        have r1 : (wb ad != wb bd) = true := by simpa using q2
        have hb : Below w.heap.size w ((w.alloc (.cells #[.int .u32 (wb an), .slice A1 aouts.length p1, .int .i64 at_, .int .u32 (wb ad), .slice A3 aheld.length p3] 26)).alloc (.cells #[.int .u32 (wb an), .slice A2 bouts.length p2, .int .i64 at_, .int .u32 (wb bd), .slice A4 bheld.length p4] 26)) := ((Below.refl _ _).alloc (Nat.le_refl _) _).alloc (by simp) _
        have HB2 := Lib.hid (show sameB ⟨an, aouts, at_, ad, aheld⟩ ⟨an, bouts, at_, bd, bheld⟩ = false by
          rw [Bool.eq_false_iff]; intro hc
          have hc' := (sameB_iff _ _).1 hc
          simp only [Cv.mk.injEq] at hc'
          rw [hc'.2.2.2.1] at q2; simp at q2)
        go_enter Try.func19, Try.ntmps19
        go_wp2_with fail
        go_ret
        exact ⟨by rw [HB2.out]; rfl, hb⟩
      | true =>
        obtain rfl : ad = bd := wb_inj.1 (by simpa using q2)
        by_cases hL : aouts.length = bouts.length
        · obtain ⟨n, hn1⟩ : ∃ n, n = aouts.length := ⟨_, rfl⟩
          rw [← hL, ← hn1]
          rw [← hn1] at hL hn
          have N1 := Lib.hid hn1.symm
          have N2 := Lib.hid hL.symm
          clear hn1 hL
          by_cases hM : aheld.length = bheld.length
          · obtain ⟨m, hm1⟩ : ∃ m, m = aheld.length := ⟨_, rfl⟩
            rw [← hM, ← hm1]
            rw [← hm1] at hM hm
            have N3 := Lib.hid hm1.symm
            have N4 := Lib.hid hM.symm
            clear hm1 hM
            have hb : Below w.heap.size w ((w.alloc (.cells #[.int .u32 (wb an), .slice A1 n p1, .int .i64 at_, .int .u32 (wb ad), .slice A3 m p3] 26)).alloc (.cells #[.int .u32 (wb an), .slice A2 n p2, .int .i64 at_, .int .u32 (wb ad), .slice A4 m p4] 26)) := ((Below.refl _ _).alloc (Nat.le_refl _) _).alloc (by simp) _
            have mA := (Blk.new w #[.int .u32 (wb an), .slice A1 n p1, .int .i64 at_, .int .u32 (wb ad), .slice A3 m p3] 26).alloc (.cells #[.int .u32 (wb an), .slice A2 n p2, .int .i64 at_, .int .u32 (wb ad), .slice A4 m p4] 26)
            have mB := Blk.new (w.alloc (.cells #[.int .u32 (wb an), .slice A1 n p1, .int .i64 at_, .int .u32 (wb ad), .slice A3 m p3] 26)) #[.int .u32 (wb an), .slice A2 n p2, .int .i64 at_, .int .u32 (wb ad), .slice A4 m p4] 26
            rw [show (w.alloc (.cells #[.int .u32 (wb an), .slice A1 n p1, .int .i64 at_, .int .u32 (wb ad), .slice A3 m p3] 26)).heap.size = w.heap.size + 1 by simp] at mB
            go_enter Try.func19, Try.ntmps19
            go_wp2_with fail
            go_loopw [47] (fun vi wr => ∃ k : Nat, k ≤ n ∧ vi = .int .i64 k ∧ aouts.take k = bouts.take k ∧ (Blk wr w.heap.size #[.int .u32 (wb an), .slice A1 n p1, .int .i64 at_, .int .u32 (wb ad), .slice A3 m p3] 26 ∧ Blk wr (w.heap.size + 1) #[.int .u32 (wb an), .slice A2 n p2, .int .i64 at_, .int .u32 (wb ad), .slice A4 m p4] 26) ∧ Below w.heap.size w wr) (fun vi _ => n - (intOf vi).toNat)
            case atStart => exact ⟨0, Nat.zero_le _, rfl, by simp, ⟨mA, mB⟩, hb⟩
            case round =>
              clear mA mB hb
              obtain ⟨k, hk, rfl, htk, ⟨mA, mB⟩, hb⟩ := hrel
              have HTK := Lib.hid htk
              clear htk
              by_cases hlt : k < n
              · have i1 : (k : Int) < (n : Int) := by omega
                have hk0 : (0 : Int) ≤ (k : Int) := Int.natCast_nonneg _
                obtain ⟨x1, hx1⟩ : ∃ x, aouts[k]? = some x := ⟨_, List.getElem?_eq_getElem (by rw [N1.out]; exact hlt)⟩
                obtain ⟨x2, hx2⟩ : ∃ x, bouts[k]? = some x := ⟨_, List.getElem?_eq_getElem (by rw [N2.out]; exact hlt)⟩
                obtain ⟨g1, o1, rfl, a1⟩ := cells_at OK1.out HC1.out hx1
                obtain ⟨g2, o2, rfl, a2⟩ := cells_at OK2.out HC2.out hx2
                have K1 := Lib.hid (OK1.out x1 (mem_of_get hx1))
                have K2 := Lib.hid (OK2.out x2 (mem_of_get hx2))
                have Q1 := Lib.hid (a1.below hb)
                have Q2 := Lib.hid (a2.below hb)
                have X1 := Lib.hid hx1
                have X2 := Lib.hid hx2
                have HLT := Lib.hid hlt
                have hne := neq_out x1 x2 K1.out K2.out
                have hgu := fun (p q : Operand) wx => run_eqGuard_agg (P := Try.prog) wx .neq 39 p q (outC x1).toArray (outC x2).toArray (by kernel_rfl)
                clear hlt a1 a2 hx1 hx2
                cases hq : (x1 == x2) with
                | false =>
                  have HB2 := Lib.hid (show sameB ⟨an, aouts, at_, ad, aheld⟩ ⟨an, bouts, at_, ad, bheld⟩ = false by
                    rw [Bool.eq_false_iff]; intro hc
                    have hc' := (sameB_iff _ _).1 hc
                    simp only [Cv.mk.injEq] at hc'
                    have : x1 = x2 := by have h1 := X1.out; rw [hc'.2.1, X2.out] at h1; exact (Option.some.inj h1).symm
                    rw [this] at hq; simp at hq)
                  rw [hq] at hne
                  have HB := Lib.hid hb
                  clear hq hb
                  go_wp2_with fail
                  refine mix_start (fun w' => (Blk w' w.heap.size #[.int .u32 (wb an), .slice (some ⟨g1, o1, none⟩) n p1, .int .i64 at_, .int .u32 (wb ad), .slice A3 m p3] 26 ∧ Blk w' (w.heap.size + 1) #[.int .u32 (wb an), .slice (some ⟨g2, o2, none⟩) n p2, .int .i64 at_, .int .u32 (wb ad), .slice A4 m p4] 26) ∧ Below wr.heap.size wr w') (List.range 11) [] [1, 4, 6, 9] [] (by kernel_rfl) (by kernel_rfl) (fun d _ _ _ _ h => by cases d <;> exact h) ⟨⟨mA.drew, mB.drew⟩, (Below.refl _ _).drew⟩ ?_
                  refine mix_pure rfl rfl (fun K hK => ?_); go_simp; refine hK _ ?_; clear hK K
                  refine mix_read (.slice (some ⟨g1, o1, none⟩) n p1) rfl rfl rfl rfl (fun w' hS => ?_) ?_
                  · have k5 : w'.cell? ⟨w.heap.size, 1, none⟩ = some (.slice (some ⟨g1, o1, none⟩) n p1) := hS.1.1.cell 1
                    go_simp
                  refine mix_pure rfl rfl (fun K hK => ?_); go_simp; refine hK _ ?_; clear hK K
                  refine mix_pure rfl rfl (fun K hK => ?_); go_simp; refine hK _ ?_; clear hK K
                  refine mix_load_cells rfl rfl rfl rfl 39 _ rfl g1 (o1 + k * 106) rfl (outC x1) (fun w' hS => (Q1.out.below hS.2)) _ Try.underlying39 rfl (by rw [outC_length _ K1.out]; exact sizeOut) ?_
                  generalize Value.agg (outC x1).toArray = V1 at *
                  refine mix_pure rfl rfl (fun K hK => ?_); go_simp; refine hK _ ?_; clear hK K
                  refine mix_read (.slice (some ⟨g2, o2, none⟩) n p2) rfl rfl rfl rfl (fun w' hS => ?_) ?_
                  · have k5 : w'.cell? ⟨w.heap.size + 1, 1, none⟩ = some (.slice (some ⟨g2, o2, none⟩) n p2) := hS.1.2.cell 1
                    go_simp
                  refine mix_pure rfl rfl (fun K hK => ?_); go_simp; refine hK _ ?_; clear hK K
                  refine mix_pure rfl rfl (fun K hK => ?_); go_simp; refine hK _ ?_; clear hK K
                  refine mix_load_cells rfl rfl rfl rfl 39 _ rfl g2 (o2 + k * 106) rfl (outC x2) (fun w' hS => (Q2.out.below hS.2)) _ Try.underlying39 rfl (by rw [outC_length _ K2.out]; exact sizeOut) ?_
                  generalize Value.agg (outC x2).toArray = V2 at *
                  refine mix_pure rfl rfl (fun K hK => ?_); go_simp; refine hK _ ?_; clear hK K
                  refine mix_nil ?_
                  go_wp2_with fail
                  go_ret
                  exact ⟨by rw [HB2.out]; rfl, HB.out.drew⟩
                | true =>
                  have HS := Lib.hid (take_step X1.out X2.out HTK.out (by simpa using hq))
                  rw [hq] at hne
                  have HB := Lib.hid hb
                  have MAB := Lib.hid (And.intro mA mB)
                  clear hq hb
                  go_wp2_with fail
                  refine mix_start (fun w' => (Blk w' w.heap.size #[.int .u32 (wb an), .slice (some ⟨g1, o1, none⟩) n p1, .int .i64 at_, .int .u32 (wb ad), .slice A3 m p3] 26 ∧ Blk w' (w.heap.size + 1) #[.int .u32 (wb an), .slice (some ⟨g2, o2, none⟩) n p2, .int .i64 at_, .int .u32 (wb ad), .slice A4 m p4] 26) ∧ Below wr.heap.size wr w') (List.range 11) [] [1, 4, 6, 9] [] (by kernel_rfl) (by kernel_rfl) (fun d _ _ _ _ h => by cases d <;> exact h) ⟨⟨mA.drew, mB.drew⟩, (Below.refl _ _).drew⟩ ?_
                  refine mix_pure rfl rfl (fun K hK => ?_); go_simp; refine hK _ ?_; clear hK K
                  refine mix_read (.slice (some ⟨g1, o1, none⟩) n p1) rfl rfl rfl rfl (fun w' hS => ?_) ?_
                  · have k5 : w'.cell? ⟨w.heap.size, 1, none⟩ = some (.slice (some ⟨g1, o1, none⟩) n p1) := hS.1.1.cell 1
                    go_simp
                  refine mix_pure rfl rfl (fun K hK => ?_); go_simp; refine hK _ ?_; clear hK K
                  refine mix_pure rfl rfl (fun K hK => ?_); go_simp; refine hK _ ?_; clear hK K
                  refine mix_load_cells rfl rfl rfl rfl 39 _ rfl g1 (o1 + k * 106) rfl (outC x1) (fun w' hS => (Q1.out.below hS.2)) _ Try.underlying39 rfl (by rw [outC_length _ K1.out]; exact sizeOut) ?_
                  generalize Value.agg (outC x1).toArray = V1 at *
                  refine mix_pure rfl rfl (fun K hK => ?_); go_simp; refine hK _ ?_; clear hK K
                  refine mix_read (.slice (some ⟨g2, o2, none⟩) n p2) rfl rfl rfl rfl (fun w' hS => ?_) ?_
                  · have k5 : w'.cell? ⟨w.heap.size + 1, 1, none⟩ = some (.slice (some ⟨g2, o2, none⟩) n p2) := hS.1.2.cell 1
                    go_simp
                  refine mix_pure rfl rfl (fun K hK => ?_); go_simp; refine hK _ ?_; clear hK K
                  refine mix_pure rfl rfl (fun K hK => ?_); go_simp; refine hK _ ?_; clear hK K
                  refine mix_load_cells rfl rfl rfl rfl 39 _ rfl g2 (o2 + k * 106) rfl (outC x2) (fun w' hS => (Q2.out.below hS.2)) _ Try.underlying39 rfl (by rw [outC_length _ K2.out]; exact sizeOut) ?_
                  generalize Value.agg (outC x2).toArray = V2 at *
                  refine mix_pure rfl rfl (fun K hK => ?_); go_simp; refine hK _ ?_; clear hK K
                  refine mix_nil ?_
                  go_wp2_with fail
                  go_roundw
                  case rel =>
                    first | exact ⟨k + 1, by have := HLT.out; omega, by go_num, HS.out, ⟨MAB.out.1.drew, MAB.out.2.drew⟩, HB.out.drew⟩ | ((repeat apply Exists.intro); exact ⟨⟨k + 1, by have := HLT.out; omega, by go_num, HS.out, ⟨MAB.out.1.drew, MAB.out.2.drew⟩, HB.out.drew⟩, rfl⟩)
                  case measure => simp [intOf]; have := HLT.out; omega
              · obtain rfl : n = k := by omega
                have HB1 := Lib.hid (show aouts = bouts by
                  have := HTK.out
                  rw [List.take_of_length_le (by rw [N1.out]; exact Nat.le_refl _), List.take_of_length_le (by rw [N2.out]; exact Nat.le_refl _)] at this
                  exact this)
                clear HTK
                have pA := mA.cell 4
                have pB := mB.cell 4
                go_wp2_with fail
                go_loopw [65] (fun vi wr => ∃ k : Nat, k ≤ m ∧ vi = .int .i64 k ∧ aheld.take k = bheld.take k ∧ (Blk wr w.heap.size #[.int .u32 (wb an), .slice A1 n p1, .int .i64 at_, .int .u32 (wb ad), .slice A3 m p3] 26 ∧ Blk wr (w.heap.size + 1) #[.int .u32 (wb an), .slice A2 n p2, .int .i64 at_, .int .u32 (wb ad), .slice A4 m p4] 26) ∧ Below w.heap.size w wr) (fun vi _ => m - (intOf vi).toNat)
                case atStart => exact ⟨0, Nat.zero_le _, rfl, by simp, ⟨mA, mB⟩, hb⟩
                case round =>
                  clear mA mB hb
                  obtain ⟨k, hk, rfl, htk, ⟨mA, mB⟩, hb⟩ := hrel
                  have HTK := Lib.hid htk
                  clear htk
                  by_cases hlt : k < m
                  · have i1 : (k : Int) < (m : Int) := by omega
                    have hk0 : (0 : Int) ≤ (k : Int) := Int.natCast_nonneg _
                    obtain ⟨x1, hx1⟩ : ∃ x, aheld[k]? = some x := ⟨_, List.getElem?_eq_getElem (by rw [N3.out]; exact hlt)⟩
                    obtain ⟨x2, hx2⟩ : ∃ x, bheld[k]? = some x := ⟨_, List.getElem?_eq_getElem (by rw [N4.out]; exact hlt)⟩
                    obtain ⟨g1, o1, rfl, a1⟩ := cells_at OK3.out HC3.out hx1
                    obtain ⟨g2, o2, rfl, a2⟩ := cells_at OK4.out HC4.out hx2
                    have K1 := Lib.hid (OK3.out x1 (mem_of_get hx1))
                    have K2 := Lib.hid (OK4.out x2 (mem_of_get hx2))
                    have Q1 := Lib.hid (a1.below hb)
                    have Q2 := Lib.hid (a2.below hb)
                    have X1 := Lib.hid hx1
                    have X2 := Lib.hid hx2
                    have HLT := Lib.hid hlt
                    have hne := neq_in x1 x2
                    have hgu := fun (p q : Operand) wx => run_eqGuard_agg (P := Try.prog) wx .neq 55 p q (inC x1).toArray (inC x2).toArray (by kernel_rfl)
                    clear hlt a1 a2 hx1 hx2
                    cases hq : (x1 == x2) with
                    | false =>
                      have HB2 := Lib.hid (show sameB ⟨an, aouts, at_, ad, aheld⟩ ⟨an, bouts, at_, ad, bheld⟩ = false by
                        rw [Bool.eq_false_iff]; intro hc
                        have hc' := (sameB_iff _ _).1 hc
                        simp only [Cv.mk.injEq] at hc'
                        have : x1 = x2 := by have h1 := X1.out; rw [hc'.2.2.2.2, X2.out] at h1; exact (Option.some.inj h1).symm
                        rw [this] at hq; simp at hq)
                      rw [hq] at hne
                      have HB := Lib.hid hb
                      clear hq hb
                      go_wp2_with fail
                      refine mix_start (fun w' => (Blk w' w.heap.size #[.int .u32 (wb an), .slice A1 n p1, .int .i64 at_, .int .u32 (wb ad), .slice (some ⟨g1, o1, none⟩) m p3] 26 ∧ Blk w' (w.heap.size + 1) #[.int .u32 (wb an), .slice A2 n p2, .int .i64 at_, .int .u32 (wb ad), .slice (some ⟨g2, o2, none⟩) m p4] 26) ∧ Below wr.heap.size wr w') (List.range 11) [] [1, 4, 6, 9] [] (by kernel_rfl) (by kernel_rfl) (fun d _ _ _ _ h => by cases d <;> exact h) ⟨⟨mA.drew, mB.drew⟩, (Below.refl _ _).drew⟩ ?_
                      refine mix_pure rfl rfl (fun K hK => ?_); go_simp; refine hK _ ?_; clear hK K
                      refine mix_read (.slice (some ⟨g1, o1, none⟩) m p3) rfl rfl rfl rfl (fun w' hS => ?_) ?_
                      · have k5 : w'.cell? ⟨w.heap.size, 4, none⟩ = some (.slice (some ⟨g1, o1, none⟩) m p3) := hS.1.1.cell 4
                        go_simp
                      refine mix_pure rfl rfl (fun K hK => ?_); go_simp; refine hK _ ?_; clear hK K
                      refine mix_pure rfl rfl (fun K hK => ?_); go_simp; refine hK _ ?_; clear hK K
                      refine mix_load_cells rfl rfl rfl rfl 55 _ rfl g1 (o1 + k * 2) rfl (inC x1) (fun w' hS => (Q1.out.below hS.2)) _ Try.underlying55 rfl (by exact sizeIn) ?_
                      generalize Value.agg (inC x1).toArray = V1 at *
                      refine mix_pure rfl rfl (fun K hK => ?_); go_simp; refine hK _ ?_; clear hK K
                      refine mix_read (.slice (some ⟨g2, o2, none⟩) m p4) rfl rfl rfl rfl (fun w' hS => ?_) ?_
                      · have k5 : w'.cell? ⟨w.heap.size + 1, 4, none⟩ = some (.slice (some ⟨g2, o2, none⟩) m p4) := hS.1.2.cell 4
                        go_simp
                      refine mix_pure rfl rfl (fun K hK => ?_); go_simp; refine hK _ ?_; clear hK K
                      refine mix_pure rfl rfl (fun K hK => ?_); go_simp; refine hK _ ?_; clear hK K
                      refine mix_load_cells rfl rfl rfl rfl 55 _ rfl g2 (o2 + k * 2) rfl (inC x2) (fun w' hS => (Q2.out.below hS.2)) _ Try.underlying55 rfl (by exact sizeIn) ?_
                      generalize Value.agg (inC x2).toArray = V2 at *
                      refine mix_pure rfl rfl (fun K hK => ?_); go_simp; refine hK _ ?_; clear hK K
                      refine mix_nil ?_
                      go_wp2_with fail
                      go_ret
                      exact ⟨by rw [HB2.out]; rfl, HB.out.drew⟩
                    | true =>
                      have HS := Lib.hid (take_step X1.out X2.out HTK.out (by simpa using hq))
                      rw [hq] at hne
                      have HB := Lib.hid hb
                      have MAB := Lib.hid (And.intro mA mB)
                      clear hq hb
                      go_wp2_with fail
                      refine mix_start (fun w' => (Blk w' w.heap.size #[.int .u32 (wb an), .slice A1 n p1, .int .i64 at_, .int .u32 (wb ad), .slice (some ⟨g1, o1, none⟩) m p3] 26 ∧ Blk w' (w.heap.size + 1) #[.int .u32 (wb an), .slice A2 n p2, .int .i64 at_, .int .u32 (wb ad), .slice (some ⟨g2, o2, none⟩) m p4] 26) ∧ Below wr.heap.size wr w') (List.range 11) [] [1, 4, 6, 9] [] (by kernel_rfl) (by kernel_rfl) (fun d _ _ _ _ h => by cases d <;> exact h) ⟨⟨mA.drew, mB.drew⟩, (Below.refl _ _).drew⟩ ?_
                      refine mix_pure rfl rfl (fun K hK => ?_); go_simp; refine hK _ ?_; clear hK K
                      refine mix_read (.slice (some ⟨g1, o1, none⟩) m p3) rfl rfl rfl rfl (fun w' hS => ?_) ?_
                      · have k5 : w'.cell? ⟨w.heap.size, 4, none⟩ = some (.slice (some ⟨g1, o1, none⟩) m p3) := hS.1.1.cell 4
                        go_simp
                      refine mix_pure rfl rfl (fun K hK => ?_); go_simp; refine hK _ ?_; clear hK K
                      refine mix_pure rfl rfl (fun K hK => ?_); go_simp; refine hK _ ?_; clear hK K
                      refine mix_load_cells rfl rfl rfl rfl 55 _ rfl g1 (o1 + k * 2) rfl (inC x1) (fun w' hS => (Q1.out.below hS.2)) _ Try.underlying55 rfl (by exact sizeIn) ?_
                      generalize Value.agg (inC x1).toArray = V1 at *
                      refine mix_pure rfl rfl (fun K hK => ?_); go_simp; refine hK _ ?_; clear hK K
                      refine mix_read (.slice (some ⟨g2, o2, none⟩) m p4) rfl rfl rfl rfl (fun w' hS => ?_) ?_
                      · have k5 : w'.cell? ⟨w.heap.size + 1, 4, none⟩ = some (.slice (some ⟨g2, o2, none⟩) m p4) := hS.1.2.cell 4
                        go_simp
                      refine mix_pure rfl rfl (fun K hK => ?_); go_simp; refine hK _ ?_; clear hK K
                      refine mix_pure rfl rfl (fun K hK => ?_); go_simp; refine hK _ ?_; clear hK K
                      refine mix_load_cells rfl rfl rfl rfl 55 _ rfl g2 (o2 + k * 2) rfl (inC x2) (fun w' hS => (Q2.out.below hS.2)) _ Try.underlying55 rfl (by exact sizeIn) ?_
                      generalize Value.agg (inC x2).toArray = V2 at *
                      refine mix_pure rfl rfl (fun K hK => ?_); go_simp; refine hK _ ?_; clear hK K
                      refine mix_nil ?_
                      go_wp2_with fail
                      go_roundw
                      case rel =>
                        first | exact ⟨k + 1, by have := HLT.out; omega, by go_num, HS.out, ⟨MAB.out.1.drew, MAB.out.2.drew⟩, HB.out.drew⟩ | ((repeat apply Exists.intro); exact ⟨⟨k + 1, by have := HLT.out; omega, by go_num, HS.out, ⟨MAB.out.1.drew, MAB.out.2.drew⟩, HB.out.drew⟩, rfl⟩)
                      case measure => simp [intOf]; have := HLT.out; omega
                  · obtain rfl : m = k := by omega
                    have HB3 := Lib.hid (show aheld = bheld by
                      have := HTK.out
                      rw [List.take_of_length_le (by rw [N3.out]; exact Nat.le_refl _), List.take_of_length_le (by rw [N4.out]; exact Nat.le_refl _)] at this
                      exact this)
                    clear HTK
                    have pA := mA.cell 0
                    have pB := mB.cell 0
                    go_wp2_with fail
                    go_ret
                    exact ⟨by
                      have : sameB ⟨an, aouts, at_, ad, aheld⟩ ⟨an, bouts, at_, ad, bheld⟩ = true := by
                        rw [sameB_iff, HB1.out, HB3.out]
                      rw [this]; rfl, hb⟩
          · have hi : ((aheld.length : Int) != (bheld.length : Int)) = true := by simp; omega
            have hp : ¬ (aheld.length : Int) = (bheld.length : Int) := by omega
            have hb : Below w.heap.size w ((w.alloc (.cells #[.int .u32 (wb an), .slice A1 n p1, .int .i64 at_, .int .u32 (wb ad), .slice A3 aheld.length p3] 26)).alloc (.cells #[.int .u32 (wb an), .slice A2 n p2, .int .i64 at_, .int .u32 (wb ad), .slice A4 bheld.length p4] 26)) := ((Below.refl _ _).alloc (Nat.le_refl _) _).alloc (by simp) _
            have HB2 := Lib.hid (show sameB ⟨an, aouts, at_, ad, aheld⟩ ⟨an, bouts, at_, ad, bheld⟩ = false by
              rw [Bool.eq_false_iff]; intro hc
              have hc' := (sameB_iff _ _).1 hc
              simp only [Cv.mk.injEq] at hc'
              exact hM (by rw [hc'.2.2.2.2]))
            go_enter Try.func19, Try.ntmps19
            go_wp2_with fail
            go_ret
            exact ⟨by rw [HB2.out]; rfl, hb⟩
        · have hi : ((aouts.length : Int) != (bouts.length : Int)) = true := by simp; omega
          have hp : ¬ (aouts.length : Int) = (bouts.length : Int) := by omega
          have hb : Below w.heap.size w ((w.alloc (.cells #[.int .u32 (wb an), .slice A1 aouts.length p1, .int .i64 at_, .int .u32 (wb ad), .slice A3 aheld.length p3] 26)).alloc (.cells #[.int .u32 (wb an), .slice A2 bouts.length p2, .int .i64 at_, .int .u32 (wb ad), .slice A4 bheld.length p4] 26)) := ((Below.refl _ _).alloc (Nat.le_refl _) _).alloc (by simp) _
          have HB2 := Lib.hid (show sameB ⟨an, aouts, at_, ad, aheld⟩ ⟨an, bouts, at_, ad, bheld⟩ = false by
            rw [Bool.eq_false_iff]; intro hc
            have hc' := (sameB_iff _ _).1 hc
            simp only [Cv.mk.injEq] at hc'
            exact hL (by rw [hc'.2.1]))
          go_enter Try.func19, Try.ntmps19
          go_wp2_with fail
          go_ret
          exact ⟨by rw [HB2.out]; rfl, hb⟩
end Go.Proofs.Ytjghhbollgggoaa
