/- Whether what is held may be: convo's holds (printed by gencvchk.py). -/
import Derived.Test.YtjghhbollgggoaaCvRep
import Derived.Test.YtjghhbollgggoaaShr
namespace Go.Proofs.Ytjghhbollgggoaa
open Go.RowKit
set_option linter.unusedVariables false
set_option linter.unusedSimpArgs false
def heldOk (dl : BitVec 32) : BitVec 32 → List CE → Bool
  | _, [] => true
  | a, x :: l => decide (wb a < wb x.1) && decide (wb (x.1 - dl) < 4) && decide (wb x.1 < 2147483648) && decide (0 < x.2.length) && decide (x.2.length ≤ 48) && heldOk dl x.1 l
def holdsB (dl : BitVec 32) (l : List CE) : Bool := heldOk dl dl l && decide (l.length ≤ 3)
theorem drop_at {α : Type} {l : List α} {k : Nat} {x : α} (h : l[k]? = some x) : l.drop k = x :: l.drop (k + 1) := by
  obtain ⟨hk, rfl⟩ := List.getElem?_eq_some_iff.1 h
  exact List.drop_eq_getElem_cons hk
theorem str_emptyL (t : List (BitVec 8)) : ((strB t).toList == (ByteArray.mk #[]).toList) = (t.length == 0) := by
  show ((strB t).toList == (strB []).toList) = _
  rw [strB_beq]
  cases t <;> simp
theorem str_isE (t : List (BitVec 8)) : (strB t).toList.isEmpty = (t.length == 0) := by
  have h : (strB t).toList.length = t.length := by rw [ByteArray.toList_eq, strB_toList]; simp
  cases h2 : (strB t).toList with
  | nil => rw [h2] at h; simp at h; simp [← h]
  | cons a l => rw [h2] at h; simp at h; simp [← h]
theorem str_empty (t : List (BitVec 8)) : (strB t == ByteArray.mk #[]) = (t.length == 0) := by
  rw [beq_toListBytes, str_emptyL]
set_option maxRecDepth 100000 in
set_option maxHeartbeats 8000000 in
theorem holds_any {nx dl : BitVec 32} {turn : Int} {outs held : List CE} {vo vi : Value} (w : World) (hi : ArgE inEl w vi held) (hm : held.length ≤ 1099511627776) :
    Calls Try.prog 39 #[.agg #[.int .u32 (wb nx), vo, .int .i64 turn, .int .u32 (wb dl), vi]] w fun e w' => e = .returned (.bool (holdsB dl held)) ∧ Below w.heap.size w w' := by
  obtain ⟨A, p, rfl, -, ok, hC⟩ := hi
  have HOK := Lib.hid ok
  have HC := Lib.hid hC
  clear ok hC
  obtain ⟨m, hm1⟩ : ∃ m, m = held.length := ⟨_, rfl⟩
  rw [← hm1] at hm ⊢
  have HM := Lib.hid hm1.symm
  clear hm1
  have mb := Blk.new w #[.int .u32 (wb nx), vo, .int .i64 turn, .int .u32 (wb dl), .slice A m p] 26
  have hb : Below w.heap.size w (w.alloc (.cells #[.int .u32 (wb nx), vo, .int .i64 turn, .int .u32 (wb dl), .slice A m p] 26)) := (Below.refl _ _).alloc (Nat.le_refl _) _
  go_enter Try.func39, Try.ntmps39
  go_wp2_with fail
  go_loopw [3, 11] (fun va vi wr => ∃ k a, k ≤ m ∧ vi = .int .i64 (k : Nat) ∧ va = .int .u32 (wb a) ∧ heldOk dl a (held.drop k) = heldOk dl dl held ∧ Blk wr w.heap.size #[.int .u32 (wb nx), vo, .int .i64 turn, .int .u32 (wb dl), .slice A m p] 26 ∧ Below w.heap.size w wr) (fun _ vi _ => m - (intOf vi).toNat)
  case atStart => exact ⟨0, dl, Nat.zero_le _, rfl, rfl, rfl, mb, hb⟩
  case round =>
    clear mb hb
    obtain ⟨k, a, hk, rfl, rfl, hrel, mb, hb⟩ := hrel
    have HREL := Lib.hid hrel
    clear hrel
    by_cases hlt : k < m
    · have i1 : (k : Int) < (m : Int) := by omega
      have hk0 : (0 : Int) ≤ (k : Int) := Int.natCast_nonneg _
      obtain ⟨x, hx⟩ : ∃ x, held[k]? = some x := ⟨_, List.getElem?_eq_getElem (by rw [HM.out]; exact hlt)⟩
      obtain ⟨g, o, rfl, hat⟩ := cells_at HOK.out HC.out hx
      have HX := Lib.hid hx
      have HLT := Lib.hid hlt
      have hat2 := hat.below hb
      obtain ⟨s, hs⟩ : ∃ s, s = strB x.2 := ⟨_, rfl⟩
      obtain ⟨n, hsn⟩ : ∃ n, n = x.2.length := ⟨_, rfl⟩
      have HAT : Hid (∀ j u, ([.int .u32 (wb x.1), .string s] : List Value)[j]? = some u → wr.cell? ⟨g, o + k * 2 + j, none⟩ = some u) := by rw [hs]; exact hat2
      have HSN := Lib.hid hsn.symm
      have hsz : s.size = n := by rw [hs, hsn, strB_size]
      have hse : s.toList.isEmpty = (n == 0) := by rw [hs, hsn]; exact str_isE x.2
      have hwr : IntKind.u32.wrap (wb x.1 - wb dl) = wb (x.1 - dl) := wrap_sub isU32 _ _
      have hal : Below wr.heap.size wr (wr.alloc (.cells #[.int .u32 (wb x.1), .string s] 55)) := (Below.refl _ _).alloc (Nat.le_refl _) _
      replace mb := mb.below hal mb.lt
      replace hb := hb.trans (hal.mono hb.size)
      have pd := mb.cell 3
      clear hal hat hat2 hx hlt hs hsn
      by_cases h1 : wb a < wb x.1
      · by_cases h2 : wb (x.1 - dl) < 4
        · by_cases h3 : wb x.1 < 2147483648
          · by_cases h4 : 0 < x.2.length
            · by_cases h5 : x.2.length ≤ 48
              · have HR := Lib.hid (show heldOk dl x.1 (held.drop (k + 1)) = heldOk dl dl held by
                  rw [← HREL.out, drop_at HX.out]
                  rw [heldOk]
                  simp only [h1, h2, h3, h4, h5, decide_true, Bool.true_and])
                have q1 : decide (wb x.1 ≤ wb a) = false := by simp only [decide_eq_false_iff_not, decide_eq_true_eq]; omega
                have q2 : decide (4 ≤ wb (x.1 - dl)) = false := by simp only [decide_eq_false_iff_not, decide_eq_true_eq]; omega
                have q3 : decide (2147483648 ≤ wb x.1) = false := by simp only [decide_eq_false_iff_not, decide_eq_true_eq]; omega
                clear h1 h2 h3
                rw [show (n == 0) = false by have := HSN.out; simp; omega] at hse
                have z5 : (n : Int) ≤ 48 := by have := HSN.out; omega
                clear h4 h5
                go_wp2_with (first | (refine wpList_load_cells rfl 55 _ rfl g (o + k * 2) rfl [.int .u32 (wb x.1), .string s] HAT.out _ Try.underlying55 rfl (by exact sizeIn) ?_) | fail)
                exact ⟨⟨k + 1, x.1, by have := HLT.out; omega, by go_num, rfl, HR.out, mb, hb⟩, by simp [intOf]; have := HLT.out; omega⟩
              · have HR := Lib.hid (show heldOk dl dl held = false by
                  rw [← HREL.out, drop_at HX.out, heldOk]
                  simp only [h1, h2, h3, h4, h5, decide_false, decide_true, Bool.and_false, Bool.false_and, Bool.true_and])
                have q1 : decide (wb x.1 ≤ wb a) = false := by simp only [decide_eq_false_iff_not, decide_eq_true_eq]; omega
                have q2 : decide (4 ≤ wb (x.1 - dl)) = false := by simp only [decide_eq_false_iff_not, decide_eq_true_eq]; omega
                have q3 : decide (2147483648 ≤ wb x.1) = false := by simp only [decide_eq_false_iff_not, decide_eq_true_eq]; omega
                clear h1 h2 h3
                rw [show (n == 0) = false by have := HSN.out; simp; omega] at hse
                have z5 : ¬ (n : Int) ≤ 48 := by have := HSN.out; omega
                clear h4 h5
                go_wp2_with (first | (refine wpList_load_cells rfl 55 _ rfl g (o + k * 2) rfl [.int .u32 (wb x.1), .string s] HAT.out _ Try.underlying55 rfl (by exact sizeIn) ?_) | fail)
                go_ret
                exact ⟨by unfold holdsB; rw [HR.out]; rfl, hb⟩
            · have HR := Lib.hid (show heldOk dl dl held = false by
                rw [← HREL.out, drop_at HX.out, heldOk]
                simp only [h1, h2, h3, h4, decide_false, decide_true, Bool.and_false, Bool.false_and, Bool.true_and])
              have q1 : decide (wb x.1 ≤ wb a) = false := by simp only [decide_eq_false_iff_not, decide_eq_true_eq]; omega
              have q2 : decide (4 ≤ wb (x.1 - dl)) = false := by simp only [decide_eq_false_iff_not, decide_eq_true_eq]; omega
              have q3 : decide (2147483648 ≤ wb x.1) = false := by simp only [decide_eq_false_iff_not, decide_eq_true_eq]; omega
              clear h1 h2 h3
              rw [show (n == 0) = true by have := HSN.out; simp; omega] at hse
              clear h4
              go_wp2_with (first | (refine wpList_load_cells rfl 55 _ rfl g (o + k * 2) rfl [.int .u32 (wb x.1), .string s] HAT.out _ Try.underlying55 rfl (by exact sizeIn) ?_) | fail)
              go_ret
              exact ⟨by unfold holdsB; rw [HR.out]; rfl, hb⟩
          · have HR := Lib.hid (show heldOk dl dl held = false by
              rw [← HREL.out, drop_at HX.out, heldOk]
              simp only [h1, h2, h3, decide_false, decide_true, Bool.and_false, Bool.false_and, Bool.true_and])
            have q1 : decide (wb x.1 ≤ wb a) = false := by simp only [decide_eq_false_iff_not, decide_eq_true_eq]; omega
            have q2 : decide (4 ≤ wb (x.1 - dl)) = false := by simp only [decide_eq_false_iff_not, decide_eq_true_eq]; omega
            have q3 : decide (2147483648 ≤ wb x.1) = true := by simp only [decide_eq_false_iff_not, decide_eq_true_eq]; omega
            clear h1 h2 h3
            go_wp2_with (first | (refine wpList_load_cells rfl 55 _ rfl g (o + k * 2) rfl [.int .u32 (wb x.1), .string s] HAT.out _ Try.underlying55 rfl (by exact sizeIn) ?_) | fail)
            go_ret
            exact ⟨by unfold holdsB; rw [HR.out]; rfl, hb⟩
        · have HR := Lib.hid (show heldOk dl dl held = false by
            rw [← HREL.out, drop_at HX.out, heldOk]
            simp only [h1, h2, decide_false, decide_true, Bool.and_false, Bool.false_and, Bool.true_and])
          have q1 : decide (wb x.1 ≤ wb a) = false := by simp only [decide_eq_false_iff_not, decide_eq_true_eq]; omega
          have q2 : decide (4 ≤ wb (x.1 - dl)) = true := by simp only [decide_eq_false_iff_not, decide_eq_true_eq]; omega
          clear h1 h2
          go_wp2_with (first | (refine wpList_load_cells rfl 55 _ rfl g (o + k * 2) rfl [.int .u32 (wb x.1), .string s] HAT.out _ Try.underlying55 rfl (by exact sizeIn) ?_) | fail)
          go_ret
          exact ⟨by unfold holdsB; rw [HR.out]; rfl, hb⟩
      · have HR := Lib.hid (show heldOk dl dl held = false by
          rw [← HREL.out, drop_at HX.out, heldOk]
          simp only [h1, decide_false, decide_true, Bool.and_false, Bool.false_and, Bool.true_and])
        have q1 : decide (wb x.1 ≤ wb a) = true := by simp only [decide_eq_false_iff_not, decide_eq_true_eq]; omega
        clear h1
        go_wp2_with (first | (refine wpList_load_cells rfl 55 _ rfl g (o + k * 2) rfl [.int .u32 (wb x.1), .string s] HAT.out _ Try.underlying55 rfl (by exact sizeIn) ?_) | fail)
        go_ret
        exact ⟨by unfold holdsB; rw [HR.out]; rfl, hb⟩
    · obtain rfl : m = k := by omega
      have pd := mb.cell 4
      have HR := Lib.hid (show heldOk dl dl held = true by
        rw [← HREL.out, List.drop_of_length_le (by rw [HM.out]; exact Nat.le_refl _)]; rfl)
      go_wp2_with fail
      go_ret
      exact ⟨by unfold holdsB; rw [HR.out, HM.out, Bool.true_and, show decide (m ≤ 3) = decide ((m : Int) ≤ 3) from decide_eq_decide.2 (by omega)]; rfl, hb⟩
end Go.Proofs.Ytjghhbollgggoaa
