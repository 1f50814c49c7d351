/- convo's Wants (printed by genwants.py). -/
import Derived.Test.YtjghhbollgggoaaCvCheck
namespace Go.Proofs.Ytjghhbollgggoaa
open Go.RowKit
set_option linter.unusedVariables false
set_option linter.unusedSimpArgs false
attribute [local go_sem] min_imin
def hasB (l : List CE) (seq : BitVec 32) : Bool := l.any (fun x => wb x.1 == wb seq)
theorem wantsK_any (q seq : BitVec 32) (s : ByteArray) (gs : Nat) (w : World) (hc : w.cell? ⟨gs, 0, none⟩ = some (.int .u32 (wb seq))) :
    Calls Try.prog 54 #[.agg #[.int .u32 (wb q), .string s], .pointer (some ⟨gs, 0, none⟩)] w fun e w' => e = .returned (.bool (wb q == wb seq)) ∧ Below w.heap.size w w' := by
  have hb : Below w.heap.size w (w.alloc (.cells #[.int .u32 (wb q), .string s] 55)) := (Below.refl _ _).alloc (Nat.le_refl _) _
  have hc2 := below_cell hb hc
  go_enter Try.func54, Try.ntmps54
  go_wp2_with fail
  go_ret
  exact ⟨rfl, hb⟩
set_option maxHeartbeats 4000000 in
theorem indexIn_any {v : Value} {l : List CE} (seq : BitVec 32) (gs : Nat) (w : World) (h : ArgE inEl w v l) (hn : l.length ≤ 1099511627776) (hc : w.cell? ⟨gs, 0, none⟩ = some (.int .u32 (wb seq))) :
    Calls Try.prog 66 #[v, (.func (Fn.func 54) #[] #[.pointer (some ⟨gs, 0, none⟩)])] w fun e w' => (∃ r : Int, e = .returned (.int .i64 r) ∧ decide (0 ≤ r) = hasB l seq) ∧ Below w.heap.size w w' := by
  obtain ⟨A, p, rfl, -, ok, hC⟩ := h
  have HOK := Lib.hid ok
  have HC := Lib.hid hC
  have HCS := Lib.hid hc
  clear ok hC hc
  obtain ⟨n, hm1⟩ : ∃ n, n = l.length := ⟨_, rfl⟩
  rw [← hm1] at hn ⊢
  have HM := Lib.hid hm1.symm
  clear hm1
  go_enter Try.func66, Try.ntmps66
  go_wp2_with fail
  go_loopw [8] (fun vi_ wr => ∃ k, k ≤ n ∧ vi_ = .int .i64 (k : Nat) ∧ hasB (l.take k) seq = false ∧ Below w.heap.size w wr) (fun vi_ _ => n - (intOf vi_).toNat)
  case atStart => exact ⟨0, Nat.zero_le _, rfl, rfl, Below.refl _ _⟩
  case round =>
    obtain ⟨k, hk, rfl, hrel, hb⟩ := hrel
    have HREL := Lib.hid hrel
    clear hrel
    by_cases hlt : k < n
    · have i1 : (k : Int) < (n : Int) := by omega
      have hk0 : (0 : Int) ≤ (k : Int) := Int.natCast_nonneg _
      obtain ⟨x, hx⟩ : ∃ x, l[k]? = some x := ⟨_, List.getElem?_eq_getElem (by rw [HM.out]; exact hlt)⟩
      obtain ⟨g, o, rfl, hat⟩ := cells_at HOK.out HC.out hx
      have HX := Lib.hid hx
      have HLT := Lib.hid hlt
      have HAT : Hid (∀ j u, ([.int .u32 (wb x.1), .string (strB x.2)] : List Value)[j]? = some u → wr.cell? ⟨g, o + k * 2 + j, none⟩ = some u) := hat.below hb
      have hcs := below_cell hb HCS.out
      clear hat hx hlt
      cases hq : (wb x.1 == wb seq) with
      | true =>
        have HR := Lib.hid (show hasB l seq = true by
          unfold hasB
          rw [List.any_eq_true]
          exact ⟨x, mem_of_get HX.out, hq⟩)
        have hcl := wantsK_any x.1 seq (strB x.2) gs wr hcs
        rw [hq] at hcl
        clear hq
        go_wp2_with (first | (refine wpList_load_cells rfl 55 _ rfl g (o + k * 2) rfl [.int .u32 (wb x.1), .string (strB x.2)] HAT.out _ Try.underlying55 rfl (by exact sizeIn) ?_) | fail)
        refine hcl.mono ?_
        rintro e w1 ⟨rfl, hn1⟩
        go_wp2_with fail
        go_ret
        exact ⟨⟨_, rfl, by rw [HR.out]; exact decide_eq_true (Int.natCast_nonneg _)⟩, hb.trans (hn1.mono hb.size)⟩
      | false =>
        have HS := Lib.hid (show hasB (l.take (k + 1)) seq = false by
          have := HREL.out
          unfold hasB at this ⊢
          rw [List.take_add_one, HX.out, List.any_append, this]
          simp only [Option.toList_some, List.any_cons, List.any_nil, hq]
          rfl)
        have hcl := wantsK_any x.1 seq (strB x.2) gs wr hcs
        rw [hq] at hcl
        clear hq
        go_wp2_with (first | (refine wpList_load_cells rfl 55 _ rfl g (o + k * 2) rfl [.int .u32 (wb x.1), .string (strB x.2)] HAT.out _ Try.underlying55 rfl (by exact sizeIn) ?_) | fail)
        refine hcl.mono ?_
        rintro e w1 ⟨rfl, hn1⟩
        have hb1 := hb.trans (hn1.mono hb.size)
        go_wp2_with fail
        exact ⟨⟨k + 1, by have := HLT.out; omega, by go_num, HS.out, hb1⟩, by simp [intOf]; have := HLT.out; omega⟩
    · obtain rfl : n = k := by omega
      have HR := Lib.hid (show hasB l seq = false by
        have := HREL.out
        rwa [List.take_of_length_le (by rw [HM.out]; exact Nat.le_refl _)] at this)
      go_wp2_with fail
      go_ret
      exact ⟨⟨_, rfl, by rw [HR.out]; rfl⟩, hb⟩
theorem contains_any {v : Value} {l : List CE} (seq : BitVec 32) (gs : Nat) (w : World) (h : ArgE inEl w v l) (hn : l.length ≤ 1099511627776) (hc : w.cell? ⟨gs, 0, none⟩ = some (.int .u32 (wb seq))) :
    Calls Try.prog 53 #[v, (.func (Fn.func 54) #[] #[.pointer (some ⟨gs, 0, none⟩)])] w fun e w' => e = .returned (.bool (hasB l seq)) ∧ Below w.heap.size w w' := by
  have HX := Lib.hid (indexIn_any seq gs w h hn hc)
  obtain ⟨A, p, rfl, -⟩ := h
  clear hc hn
  go_enter Try.func53, Try.ntmps53
  go_wp2_with fail
  refine HX.out.mono ?_
  rintro e w1 ⟨⟨r, rfl, hr⟩, hn1⟩
  go_wp2_with fail
  go_ret
  exact ⟨by rw [← hr]; rfl, hn1⟩
def wantsB (c : Cv) (seq : BitVec 32) (room : Int) : Bool := rightC c && decide (1 ≤ room) && decide (wb seq < 2147483648) && decide (wb c.dl ≤ wb seq) && decide (wb (seq - c.dl) < imin room 4) && !(hasB c.held seq)
set_option maxRecDepth 100000 in
set_option maxHeartbeats 4000000 in
theorem wants_any {c : Cv} {v : Value} (seq : BitVec 32) (room : Int) (w : World) (h : ArgC w v c) (hn : c.outs.length ≤ 1099511627775) (hm : c.held.length ≤ 1099511627775) :
    Calls Try.prog 32 #[v, .int .u32 (wb seq), .int .i64 room] w fun e w' => e = .returned (.bool (wantsB c seq room)) ∧ Below w.heap.size w w' := by
  have HCK := Lib.hid (fun wx (hb : Below w.heap.size w wx) => check_any wx (h.below hb) (by omega) (by omega))
  obtain ⟨vo, vi, rfl, ⟨A, p, rfl, -⟩, hi⟩ := h
  have HCO := Lib.hid (fun wx (hb : Below w.heap.size w wx) => contains_any seq (w.heap.size + 1) wx (hi.below hb) (by omega))
  obtain ⟨A3, p3, rfl, -⟩ := hi
  have hwr : IntKind.u32.wrap (wb seq - wb c.dl) = wb (seq - c.dl) := wrap_sub isU32 _ _
  have hwi : IntKind.i64.wrap (wb (seq - c.dl)) = wb (seq - c.dl) := IntWalk.i64_in _ (by have := wb_lt32 (seq - c.dl); have := wb_nonneg (seq - c.dl); omega)
  have hmf : ∀ (fn : Fn) (first cap : Array Value) (w : World), (Instr.makeFunc fn first cap).run Try.prog w = .ok (.func fn first cap) w := fun _ _ _ _ => rfl
  have hb : Below w.heap.size w ((w.alloc (.cells #[.int .u32 (wb c.nx), .slice A c.outs.length p, .int .i64 c.turn, .int .u32 (wb c.dl), .slice A3 c.held.length p3] 26)).alloc (.cells #[.int .u32 (wb seq)] 22)) := ((Below.refl _ _).alloc (Nat.le_refl _) _).alloc (by simp) _
  have mb := (Blk.new w #[.int .u32 (wb c.nx), .slice A c.outs.length p, .int .i64 c.turn, .int .u32 (wb c.dl), .slice A3 c.held.length p3] 26).alloc (.cells #[.int .u32 (wb seq)] 22)
  have ms := Blk.new (w.alloc (.cells #[.int .u32 (wb c.nx), .slice A c.outs.length p, .int .i64 c.turn, .int .u32 (wb c.dl), .slice A3 c.held.length p3] 26)) #[.int .u32 (wb seq)] 22
  rw [show (w.alloc (.cells #[.int .u32 (wb c.nx), .slice A c.outs.length p, .int .i64 c.turn, .int .u32 (wb c.dl), .slice A3 c.held.length p3] 26)).heap.size = w.heap.size + 1 by simp] at ms
  clear hn hm
  simp only [cvA] at *
  cases hr : rightC c with
  | false =>
    have HQ := Lib.hid (show wantsB c seq room = false by unfold wantsB; rw [hr]; rfl)
    have HR := Lib.hid hr
    clear hr
    rw [HQ.out]
    go_enter Try.func32, Try.ntmps32
    go_wp2_with (first | (refine wpList_load_row rfl 26 _ rfl w.heap.size rfl 26 #[.int .u32 (wb c.nx), .slice A c.outs.length p, .int .i64 c.turn, .int .u32 (wb c.dl), .slice A3 c.held.length p3] _ _ mb Try.underlying26 rfl (by exact sizeCv) ?_) | fail)
    refine (HCK.out _ hb).mono ?_
    rintro e x1 ⟨rfl, hn⟩
    rw [HR.out]
    have hb1 := hb.trans (hn.mono hb.size)
    go_wp2_with fail
    go_ret
    exact ⟨rfl, hb1⟩
  | true =>
    have HR := Lib.hid hr
    clear hr
    by_cases h1 : 1 ≤ room
    · by_cases h2 : wb seq < 2147483648
      · by_cases h3 : wb c.dl ≤ wb seq
        · by_cases h4 : wb (seq - c.dl) < imin room 4
          · have HQ := Lib.hid (show wantsB c seq room = !(hasB c.held seq) by
              unfold wantsB
              simp only [HR.out, h1, h2, h3, h4, decide_true, Bool.true_and])
            rw [HQ.out]
            have q1 : decide (room < 1) = false := by simp only [decide_eq_false_iff_not, decide_eq_true_eq]; omega
            have q2 : decide (2147483648 ≤ wb seq) = false := by simp only [decide_eq_false_iff_not, decide_eq_true_eq]; omega
            have q3 : decide (wb seq < wb c.dl) = false := by simp only [decide_eq_false_iff_not, decide_eq_true_eq]; omega
            have q4 : decide (imin room 4 ≤ wb (seq - c.dl)) = false := by simp only [decide_eq_false_iff_not, decide_eq_true_eq]; omega
            clear h1 h2 h3 h4
            go_enter Try.func32, Try.ntmps32
            go_wp2_with (first | (refine wpList_load_row rfl 26 _ rfl w.heap.size rfl 26 #[.int .u32 (wb c.nx), .slice A c.outs.length p, .int .i64 c.turn, .int .u32 (wb c.dl), .slice A3 c.held.length p3] _ _ mb Try.underlying26 rfl (by exact sizeCv) ?_) | fail)
            refine (HCK.out _ hb).mono ?_
            rintro e x1 ⟨rfl, hn⟩
            rw [HR.out]
            replace mb := mb.below hn mb.lt
            replace ms := ms.below hn ms.lt
            replace hb := hb.trans (hn.mono hb.size)
            clear hn
            have p3d := mb.cell 3
            have p4 := mb.cell 4
            have ps := ms.cell 0
            go_wp2_with fail
            refine (HCO.out _ hb ps).mono ?_
            rintro e x2 ⟨rfl, hn⟩
            replace hb := hb.trans (hn.mono hb.size)
            go_wp2_with fail
            go_ret
            exact ⟨rfl, hb⟩
          · have HQ := Lib.hid (show wantsB c seq room = false by
              unfold wantsB
              simp only [HR.out, h1, h2, h3, h4, decide_false, decide_true, Bool.and_false, Bool.false_and, Bool.true_and])
            rw [HQ.out]
            have q1 : decide (room < 1) = false := by simp only [decide_eq_false_iff_not, decide_eq_true_eq]; omega
            have q2 : decide (2147483648 ≤ wb seq) = false := by simp only [decide_eq_false_iff_not, decide_eq_true_eq]; omega
            have q3 : decide (wb seq < wb c.dl) = false := by simp only [decide_eq_false_iff_not, decide_eq_true_eq]; omega
            have q4 : decide (imin room 4 ≤ wb (seq - c.dl)) = true := by simp only [decide_eq_false_iff_not, decide_eq_true_eq]; omega
            clear h1 h2 h3 h4
            go_enter Try.func32, Try.ntmps32
            go_wp2_with (first | (refine wpList_load_row rfl 26 _ rfl w.heap.size rfl 26 #[.int .u32 (wb c.nx), .slice A c.outs.length p, .int .i64 c.turn, .int .u32 (wb c.dl), .slice A3 c.held.length p3] _ _ mb Try.underlying26 rfl (by exact sizeCv) ?_) | fail)
            refine (HCK.out _ hb).mono ?_
            rintro e x1 ⟨rfl, hn⟩
            rw [HR.out]
            replace mb := mb.below hn mb.lt
            replace ms := ms.below hn ms.lt
            replace hb := hb.trans (hn.mono hb.size)
            clear hn
            have p3d := mb.cell 3
            have p4 := mb.cell 4
            have ps := ms.cell 0
            go_wp2_with fail
            go_ret
            exact ⟨rfl, hb⟩
        · have HQ := Lib.hid (show wantsB c seq room = false by
            unfold wantsB
            simp only [HR.out, h1, h2, h3, decide_false, decide_true, Bool.and_false, Bool.false_and, Bool.true_and])
          rw [HQ.out]
          have q1 : decide (room < 1) = false := by simp only [decide_eq_false_iff_not, decide_eq_true_eq]; omega
          have q2 : decide (2147483648 ≤ wb seq) = false := by simp only [decide_eq_false_iff_not, decide_eq_true_eq]; omega
          have q3 : decide (wb seq < wb c.dl) = true := by simp only [decide_eq_false_iff_not, decide_eq_true_eq]; omega
          clear h1 h2 h3
          go_enter Try.func32, Try.ntmps32
          go_wp2_with (first | (refine wpList_load_row rfl 26 _ rfl w.heap.size rfl 26 #[.int .u32 (wb c.nx), .slice A c.outs.length p, .int .i64 c.turn, .int .u32 (wb c.dl), .slice A3 c.held.length p3] _ _ mb Try.underlying26 rfl (by exact sizeCv) ?_) | fail)
          refine (HCK.out _ hb).mono ?_
          rintro e x1 ⟨rfl, hn⟩
          rw [HR.out]
          replace mb := mb.below hn mb.lt
          replace ms := ms.below hn ms.lt
          replace hb := hb.trans (hn.mono hb.size)
          clear hn
          have p3d := mb.cell 3
          have p4 := mb.cell 4
          have ps := ms.cell 0
          go_wp2_with fail
          go_ret
          exact ⟨rfl, hb⟩
      · have HQ := Lib.hid (show wantsB c seq room = false by
          unfold wantsB
          simp only [HR.out, h1, h2, decide_false, decide_true, Bool.and_false, Bool.false_and, Bool.true_and])
        rw [HQ.out]
        have q1 : decide (room < 1) = false := by simp only [decide_eq_false_iff_not, decide_eq_true_eq]; omega
        have q2 : decide (2147483648 ≤ wb seq) = true := by simp only [decide_eq_false_iff_not, decide_eq_true_eq]; omega
        clear h1 h2
        go_enter Try.func32, Try.ntmps32
        go_wp2_with (first | (refine wpList_load_row rfl 26 _ rfl w.heap.size rfl 26 #[.int .u32 (wb c.nx), .slice A c.outs.length p, .int .i64 c.turn, .int .u32 (wb c.dl), .slice A3 c.held.length p3] _ _ mb Try.underlying26 rfl (by exact sizeCv) ?_) | fail)
        refine (HCK.out _ hb).mono ?_
        rintro e x1 ⟨rfl, hn⟩
        rw [HR.out]
        replace mb := mb.below hn mb.lt
        replace ms := ms.below hn ms.lt
        replace hb := hb.trans (hn.mono hb.size)
        clear hn
        have p3d := mb.cell 3
        have p4 := mb.cell 4
        have ps := ms.cell 0
        go_wp2_with fail
        go_ret
        exact ⟨rfl, hb⟩
    · have HQ := Lib.hid (show wantsB c seq room = false by
        unfold wantsB
        simp only [HR.out, h1, decide_false, decide_true, Bool.and_false, Bool.false_and, Bool.true_and])
      rw [HQ.out]
      have q1 : decide (room < 1) = true := by simp only [decide_eq_false_iff_not, decide_eq_true_eq]; omega
      clear h1
      go_enter Try.func32, Try.ntmps32
      go_wp2_with (first | (refine wpList_load_row rfl 26 _ rfl w.heap.size rfl 26 #[.int .u32 (wb c.nx), .slice A c.outs.length p, .int .i64 c.turn, .int .u32 (wb c.dl), .slice A3 c.held.length p3] _ _ mb Try.underlying26 rfl (by exact sizeCv) ?_) | fail)
      refine (HCK.out _ hb).mono ?_
      rintro e x1 ⟨rfl, hn⟩
      rw [HR.out]
      replace mb := mb.below hn mb.lt
      replace ms := ms.below hn ms.lt
      replace hb := hb.trans (hn.mono hb.size)
      clear hn
      have p3d := mb.cell 3
      have p4 := mb.cell 4
      have ps := ms.cell 0
      go_wp2_with fail
      go_ret
      exact ⟨rfl, hb⟩
end Go.Proofs.Ytjghhbollgggoaa
