/- ConvoTurns walked (printed by genwturns.py). -/
import Derived.Test.YtjghhbollgggoaaWSame
namespace Go.Proofs.Ytjghhbollgggoaa
open Go.RowKit
set_option linter.unusedVariables false
set_option linter.unusedSimpArgs false
attribute [local go_sem] max_imax
theorem cvA_one {c : Cv} {v u : Value} (h1 : v.oneCell' = true) (h2 : u.oneCell' = true) : (cvA c v u).all (·.oneCell') = true := by
  rw [Array.all_eq_true_iff_forall_mem]
  intro x hx
  have hx' : x = .int .u32 (wb c.nx) ∨ x = v ∨ x = .int .i64 c.turn ∨ x = .int .u32 (wb c.dl) ∨ x = u := by simpa [cvA] using hx
  rcases hx' with rfl | rfl | rfl | rfl | rfl
  · rfl
  · exact h1
  · rfl
  · rfl
  · exact h2
def turnK (c : Cv) (k : Nat) : Cv := ⟨c.nx, c.outs, (c.turn + (k : Int)) % (c.outs.length : Int), c.dl, c.held⟩
theorem rightC_turn {c : Cv} (h : rightC c = true) : 0 ≤ c.turn ∧ c.turn ≤ ((c.outs.length - 1 : Nat) : Int) ∧ c.outs.length ≤ 4 := by
  unfold rightC at h
  simp only [Bool.and_eq_true, decide_eq_true_eq] at h
  exact ⟨h.1.1.1.2, h.1.1.2, h.1.1.1.1.1.2⟩
theorem turnK_zero {c : Cv} (h : rightC c = true) : turnK c 0 = c := by
  obtain ⟨h0, h1, _⟩ := rightC_turn h
  obtain ⟨nx, outs, turn, dl, held⟩ := c
  simp only [turnK, Cv.mk.injEq, true_and, and_true] at *
  rw [Int.natCast_zero, Int.add_zero]
  by_cases hn : outs.length = 0
  · rw [hn, Int.natCast_zero, Int.emod_zero]
  · rw [Int.emod_eq_of_lt h0 (by omega)]
theorem rightC_turnK {c : Cv} (h : rightC c = true) (hn : 0 < c.outs.length) (k : Nat) : rightC (turnK c k) = true := by
  obtain ⟨h0, h1, _⟩ := rightC_turn h
  have e0 : 0 ≤ (c.turn + (k : Int)) % (c.outs.length : Int) := Int.emod_nonneg _ (by omega)
  have e1 : (c.turn + (k : Int)) % (c.outs.length : Int) < (c.outs.length : Int) := Int.emod_lt_of_pos _ (by omega)
  unfold rightC turnK at *
  simp only [Bool.and_eq_true, decide_eq_true_eq] at *
  obtain ⟨⟨⟨⟨⟨⟨⟨a, b⟩, cc⟩, d⟩, e⟩, f⟩, g⟩, hh⟩ := h
  exact ⟨⟨⟨⟨⟨⟨⟨a, b⟩, cc⟩, d⟩, e0⟩, by omega⟩, g⟩, hh⟩
theorem turnK_next {c : Cv} (h : rightC c = true) (hn : 0 < c.outs.length) (k : Nat) : turnR (turnK c k) = (turnK c (k + 1), outAt (turnK c k), 0) := by
  have h1 : ((((turnK c k).outs.length : Nat) : Int) == 0) = false := by
    show ((c.outs.length : Int) == 0) = false
    rw [beq_eq_false_iff_ne]
    omega
  unfold turnR
  rw [rightC_turnK h hn k, if_pos rfl, h1]
  simp only [Bool.false_eq_true, if_false, Prod.mk.injEq, and_true]
  show turnC (turnK c k) = turnK c (k + 1)
  unfold turnC turnK
  simp only [Cv.mk.injEq, true_and, and_true]
  rw [Int.emod_add_emod, Int.natCast_add, Int.add_assoc]
  rfl
theorem turnK_round {c : Cv} (h : rightC c = true) : turnK c (2 * c.outs.length) = c := by
  obtain ⟨h0, h1, _⟩ := rightC_turn h
  obtain ⟨nx, outs, turn, dl, held⟩ := c
  simp only [turnK, Cv.mk.injEq, true_and, and_true] at *
  by_cases hn : outs.length = 0
  · rw [hn]; simp
  · rw [show (turn + ((2 * outs.length : Nat) : Int)) = turn + (outs.length : Int) * 2 by omega, Int.add_mul_emod_self_left, Int.emod_eq_of_lt h0 (by omega)]
theorem turnR_len {c : Cv} (h : ∀ y ∈ c.outs, outEl.ok y) : (turnR c).2.1.2.length = 105 := by
  have hz : ceZ.2.length = 105 := rfl
  unfold turnR
  split
  · split
    · exact hz
    · show (outAt c).2.length = 105
      unfold outAt
      rw [List.getD]
      cases hq : c.outs[c.turn.toNat]? with
      | none => exact hz
      | some y => exact h y (mem_of_get hq)
  · exact hz
theorem OwnC.upd {w w' : World} {base g : Nat} {v : Value} {c : Cv} (h : OwnC w base v c) (hu : Upd g w w') (hg : g < base) : OwnC w' base v c :=
  let ⟨vo, vi, h1, h2, h3⟩ := h
  ⟨vo, vi, h1, h2.upd hu hg, h3.upd hu hg⟩
theorem turnR_end {c : Cv} (h : rightC c = true) : ((turnR c).2.2 == 0) = decide (0 < (c.outs.length : Int)) := by
  unfold turnR
  rw [h, if_pos rfl]
  cases q : ((c.outs.length : Int) == 0) with
  | true =>
    have : (c.outs.length : Int) = 0 := by simpa using q
    simp only [if_true, this]
    decide
  | false =>
    have h0 : (c.outs.length : Int) ≠ 0 := by rw [beq_eq_false_iff_ne] at q; exact q
    simp only [Bool.false_eq_true, if_false]
    rw [decide_eq_true (by omega)]
    rfl
set_option maxRecDepth 100000 in
set_option maxHeartbeats 8000000 in
theorem cturns_walk {c : Cv} {v : Value} (w : World) (h : ArgC w v c) (hn : c.outs.length ≤ 9223372036854775807) (hm : c.held.length ≤ 9223372036854775807) :
    Calls Try.prog 5 #[v] w fun e w' => e = .returned (.bool true) ∧ Below w.heap.size w w' := by
  have HSA := Lib.hid (fun wx (hb : Below w.heap.size w wx) => short_any wx (h.below hb) hn hm)
  have HLA := Lib.hid (shortC_len c)
  obtain ⟨va1, va2, rfl, -, -⟩ := h
  clear hn hm
  have hb : Below w.heap.size w (w.alloc (.cells (cvA c va1 va2) 26)) := (Below.refl _ _).alloc (Nat.le_refl _) _
  have mb := Blk.new w (cvA c va1 va2) 26
  go_enter Try.func5, Try.ntmps5
  go_wp2_with fail
  refine (wakes_any _).mono ?_
  rintro e x0 ⟨rfl, hn⟩
  replace mb := mb.below hn mb.lt
  replace hb := hb.trans (hn.mono hb.size)
  clear hn
  have hs0 := mb.lt
  go_wp2_with (first | (refine wpList_load_row rfl 26 _ rfl w.heap.size rfl 26 (cvA c va1 va2) _ _ mb Try.underlying26 rfl (by exact sizeCv) ?_) | fail)
  refine (HSA.out _ hb).mono ?_
  rintro e x1 ⟨u, rfl, ra, hn⟩
  replace mb := mb.below hn mb.lt
  replace hb := hb.trans (hn.mono hb.size)
  clear hn
  generalize shortC c = c8 at *
  obtain ⟨nx, outs, turn, dl, held⟩ := c8
  obtain ⟨vo, vi, rfl, ⟨gO, pO, rfl, -⟩, ⟨gI, pI, rfl, -⟩⟩ := id ra
  obtain ⟨n, hnn⟩ : ∃ n, n = outs.length := ⟨_, rfl⟩
  obtain ⟨m, hmm⟩ : ∃ m, m = held.length := ⟨_, rfl⟩
  have HNN : Hid (outs.length = n) := hnn.symm
  have HMM : Hid (held.length = m) := hmm.symm
  rw [show cvA (⟨nx, outs, turn, dl, held⟩ : Cv) (.slice (some ⟨gO, 0, none⟩) outs.length pO) (.slice (some ⟨gI, 0, none⟩) held.length pI) = #[.int .u32 (wb nx), .slice (some ⟨gO, 0, none⟩) n pO, .int .i64 turn, .int .u32 (wb dl), .slice (some ⟨gI, 0, none⟩) m pI] by rw [hnn, hmm]; rfl] at ra ⊢
  clear hnn hmm
  go_wp2_with (first
    | (refine wpList_store_row rfl 26 _ _ rfl w.heap.size #[.int .u32 (wb nx), .slice (some ⟨gO, 0, none⟩) n pO, .int .i64 turn, .int .u32 (wb dl), .slice (some ⟨gI, 0, none⟩) m pI] rfl rfl 26 _ mb (by exact sizeCv) (by simp [cvA]) (by simp [cvA, Value.oneCell']) ?_; replace mb := mb.row #[.int .u32 (wb nx), .slice (some ⟨gO, 0, none⟩) n pO, .int .i64 turn, .int .u32 (wb dl), .slice (some ⟨gI, 0, none⟩) m pI]; replace hb := below_setRow hb (Nat.le_refl _) #[.int .u32 (wb nx), .slice (some ⟨gO, 0, none⟩) n pO, .int .i64 turn, .int .u32 (wb dl), .slice (some ⟨gI, 0, none⟩) m pI]; replace ra := ra.upd ((Upd.refl _ _).setRow #[.int .u32 (wb nx), .slice (some ⟨gO, 0, none⟩) n pO, .int .i64 turn, .int .u32 (wb dl), .slice (some ⟨gI, 0, none⟩) m pI]) hs0; generalize x1.setRow w.heap.size #[.int .u32 (wb nx), .slice (some ⟨gO, 0, none⟩) n pO, .int .i64 turn, .int .u32 (wb dl), .slice (some ⟨gI, 0, none⟩) m pI] = x2 at *)
    | (refine wpList_load_row rfl 26 _ rfl w.heap.size rfl 26 #[.int .u32 (wb nx), .slice (some ⟨gO, 0, none⟩) n pO, .int .i64 turn, .int .u32 (wb dl), .slice (some ⟨gI, 0, none⟩) m pI] _ _ mb Try.underlying26 rfl (by exact sizeCv) ?_)
    | fail)
  have ha := ra.arg
  clear ra
  cases hr : rightC (⟨nx, outs, turn, dl, held⟩ : Cv) with
  | false =>
    have hck := check_any x2 ha (by show outs.length ≤ _; have := HLA.out.1; omega) (by show held.length ≤ _; have := HLA.out.2; omega)
    rw [hr] at hck
    clear hr
    refine hck.mono ?_
    rintro e x3 ⟨rfl, hn⟩
    replace hb := hb.trans (hn.mono hb.size)
    go_wp2_with fail
    go_ret
    exact ⟨rfl, hb⟩
  | true =>
    have hck := check_any x2 ha (by show outs.length ≤ _; have := HLA.out.1; omega) (by show held.length ≤ _; have := HLA.out.2; omega)
    rw [hr] at hck
    obtain ⟨t0, t1, t4⟩ := rightC_turn hr
    have HR := Lib.hid hr
    have HE := Lib.hid (turnR_end hr)
    have HSS : Hid (sameB (⟨nx, outs, turn, dl, held⟩ : Cv) (⟨nx, outs, turn, dl, held⟩ : Cv) = true) := (sameB_iff _ _).2 rfl
    simp only at t0 t1 t4
    rw [HNN.out] at t1 t4
    have hbo : ∀ k, (turnK (⟨nx, outs, turn, dl, held⟩ : Cv) k).outs.length ≤ 1099511627775 := fun k => by show outs.length ≤ _; rw [HNN.out]; omega
    have hbh : ∀ k, (turnK (⟨nx, outs, turn, dl, held⟩ : Cv) k).held.length ≤ 1099511627775 := fun k => by show held.length ≤ _; have := HLA.out.2; omega
    have HBO := Lib.hid hbo
    have HBH := Lib.hid hbh
    have himx : imax (n : Int) 1 = ((max n 1 : Nat) : Int) := by unfold imax; split <;> omega
    have q1 : decide (turn < 0) = false := by simp only [decide_eq_false_iff_not]; omega
    have q2 : decide (((max n 1 : Nat) : Int) ≤ turn) = false := by simp only [decide_eq_false_iff_not]; omega
    have hmul : IntKind.i64.wrap (2 * (n : Int)) = 2 * (n : Int) := IntWalk.i64_in _ (by omega)
    have HT0 := Lib.hid t0
    have HT1 := Lib.hid t1
    have HT4 := Lib.hid t4
    clear hr hbo hbh t0 t1
    refine hck.mono ?_
    rintro e x3 ⟨rfl, hn⟩
    clear hck
    replace mb := mb.below hn mb.lt
    replace hb := hb.trans (hn.mono hb.size)
    replace ha := ha.below hn
    clear hn
    have HA := Lib.hid ha
    have HMB := Lib.hid mb
    have hb0 := Lib.hid hb
    have hs3 := mb.lt
    have p1 : x3.cell? ⟨w.heap.size, 1, none⟩ = some (.slice (some ⟨gO, 0, none⟩) n pO) := mb.cell 1
    have p2 : x3.cell? ⟨w.heap.size, 2, none⟩ = some (.int .i64 turn) := mb.cell 2
    have hal : Below x3.heap.size x3 (x3.alloc (.cells #[.int .u32 (wb nx), .slice (some ⟨gO, 0, none⟩) n pO, .int .i64 turn, .int .u32 (wb dl), .slice (some ⟨gI, 0, none⟩) m pI] 26)) := (Below.refl _ _).alloc (Nat.le_refl _) _
    have md := Blk.new x3 #[.int .u32 (wb nx), .slice (some ⟨gO, 0, none⟩) n pO, .int .i64 turn, .int .u32 (wb dl), .slice (some ⟨gI, 0, none⟩) m pI] 26
    clear ha
    go_wp2_with (first
      | (refine wpList_load_row rfl 26 _ rfl w.heap.size rfl 26 #[.int .u32 (wb nx), .slice (some ⟨gO, 0, none⟩) n pO, .int .i64 turn, .int .u32 (wb dl), .slice (some ⟨gI, 0, none⟩) m pI] _ _ mb Try.underlying26 rfl (by exact sizeCv) ?_)
      | (refine wpList_store_last rfl 26 _ _ rfl _ _ #[.int .u32 (wb nx), .slice (some ⟨gO, 0, none⟩) n pO, .int .i64 turn, .int .u32 (wb dl), .slice (some ⟨gI, 0, none⟩) m pI] 26 rfl rfl rfl (by exact sizeCv) rfl (by simp [cvA, Value.oneCell']) ?_; generalize x3.alloc (.cells #[.int .u32 (wb nx), .slice (some ⟨gO, 0, none⟩) n pO, .int .i64 turn, .int .u32 (wb dl), .slice (some ⟨gI, 0, none⟩) m pI] 26) = x4 at *)
      | fail)
    clear p1 p2 q1 q2 himx
    go_loopw [5] (fun vk wr => ∃ (k : Nat) (d1 d2 : Value), k ≤ 2 * n ∧ vk = .int .i64 (k : Int) ∧ Blk wr x3.heap.size (cvA (turnK (⟨nx, outs, turn, dl, held⟩ : Cv) k) d1 d2) 26 ∧ ((k = 0 ∧ Value.agg (cvA (turnK (⟨nx, outs, turn, dl, held⟩ : Cv) k) d1 d2) = .agg #[.int .u32 (wb nx), .slice (some ⟨gO, 0, none⟩) n pO, .int .i64 turn, .int .u32 (wb dl), .slice (some ⟨gI, 0, none⟩) m pI]) ∨ OwnC wr (x3.heap.size + 1) (.agg (cvA (turnK (⟨nx, outs, turn, dl, held⟩ : Cv) k) d1 d2)) (turnK (⟨nx, outs, turn, dl, held⟩ : Cv) k)) ∧ Below x3.heap.size x3 wr) (fun vk _ => 2 * n - (intOf vk).toNat)
    case atStart => exact ⟨0, .slice (some ⟨gO, 0, none⟩) n pO, .slice (some ⟨gI, 0, none⟩) m pI, Nat.zero_le _, rfl, by rw [turnK_zero HR.out]; exact md, .inl ⟨rfl, by rw [turnK_zero HR.out]; rfl⟩, hal⟩
    case round =>
      clear md hal mb hb
      obtain ⟨k, d1, d2, hk, rfl, md, hown, hbx⟩ := hrel
      by_cases hlt : k < 2 * n
      · have i1 : (k : Int) < 2 * (n : Int) := by omega
        have hn0 : 0 < outs.length := by rw [HNN.out]; omega
        have hk0 : (0 : Int) ≤ (k : Int) := Int.natCast_nonneg _
        have hd : ArgC wr (.agg (cvA (turnK (⟨nx, outs, turn, dl, held⟩ : Cv) k) d1 d2)) (turnK (⟨nx, outs, turn, dl, held⟩ : Cv) k) := by
          rcases hown with ⟨hk0, he⟩ | ho
          · rw [he]; subst hk0; rw [turnK_zero HR.out]; exact HA.out.below hbx
          · exact ho.arg
        have HLT := Lib.hid hlt
        have hT := turn_any wr hd (HBO.out k) (HBH.out k)
        rw [turnK_next HR.out hn0 k] at hT
        have hidx0 : 0 ≤ (turn + (k : Int)) % (n : Int) := Int.emod_nonneg _ (by omega)
        have hidx1 : (turn + (k : Int)) % (n : Int) < (n : Int) := Int.emod_lt_of_pos _ (by omega)
        have hwk : IntKind.i64.wrap (turn + (k : Int)) = turn + (k : Int) := IntWalk.i64_in _ (by have := HT0.out; have := HT1.out; omega)
        have htk : 0 ≤ turn + (k : Int) := by have := HT0.out; omega
        have hnz : ¬ n = 0 := by omega
        have htm : (turn + (k : Int)).tmod (n : Int) = (turn + (k : Int)) % (n : Int) := Int.tmod_eq_emod_of_nonneg htk
        obtain ⟨x, hx⟩ : ∃ x, outs[((turn + (k : Int)) % (n : Int)).toNat]? = some x := ⟨_, List.getElem?_eq_getElem (by rw [HNN.out]; omega)⟩
        have HXA : Hid (outAt (turnK (⟨nx, outs, turn, dl, held⟩ : Cv) k) = x) := by
          show _ = _
          unfold outAt turnK
          simp only [HNN.out]
          rw [List.getD, hx]
          rfl
        obtain ⟨vo', vi', hev, hao, -⟩ := id HA.out
        have hvo : vo' = .slice (some ⟨gO, 0, none⟩) n pO := by
          simp only [cvA, Value.agg.injEq] at hev
          have := congrArg (·[1]?) hev
          simpa using this.symm
        rw [hvo] at hao
        have HXL : Hid (x.2.length = 105) := by
          obtain ⟨_, _, _, _, hok, _⟩ := hao
          exact hok x (mem_of_get hx)
        obtain ⟨g0, o0, hg0, hat⟩ := hao.at hx
        cases hg0
        clear hev hvo hown hlt hd hx
        rw [HXA.out] at hT
        go_wp2_with (first | (refine wpList_load_row rfl 26 _ rfl x3.heap.size rfl 26 (cvA (turnK (⟨nx, outs, turn, dl, held⟩ : Cv) k) d1 d2) _ _ md Try.underlying26 rfl (by exact sizeCv) ?_) | fail)
        refine hT.mono ?_
        rintro e x5 ⟨u, rfl, oc, hn5⟩
        clear hT
        obtain ⟨e1, e2, rfl, oe1, oe2⟩ := id oc
        have h1 := oe1.one
        have h2 := oe2.one
        clear oe1 oe2
        have hltr := md.lt
        replace oc := oc.base (show x3.heap.size + 1 ≤ wr.heap.size by omega)
        replace md := md.below hn5 md.lt
        have hs5 := hn5.size
        have hlt4 := md.lt
        replace hbx := hbx.trans (hn5.mono hbx.size)
        clear hn5
        have hal : Below x5.heap.size x5 ((x5.alloc (.cells #[.int .u32 0, .slice none 0 0, .int .i64 0, .int .u32 0, .slice none 0 0] 26)).alloc (.cells Try.zeroCells39 39)) := ((Below.refl _ _).alloc (Nat.le_refl _) _).alloc (by simp) _
        have mD := (Blk.new x5 #[.int .u32 0, .slice none 0 0, .int .i64 0, .int .u32 0, .slice none 0 0] 26).alloc (.cells Try.zeroCells39 39)
        have mX := Blk.new (x5.alloc (.cells #[.int .u32 0, .slice none 0 0, .int .i64 0, .int .u32 0, .slice none 0 0] 26)) Try.zeroCells39 39
        rw [show (x5.alloc (.cells #[.int .u32 0, .slice none 0 0, .int .i64 0, .int .u32 0, .slice none 0 0] 26)).heap.size = x5.heap.size + 1 by simp] at mX
        go_wp2_with (first
          | (refine wpList_store_row rfl 26 _ _ rfl x5.heap.size (cvA (turnK (⟨nx, outs, turn, dl, held⟩ : Cv) (k + 1)) e1 e2) rfl rfl 26 _ mD (by exact sizeCv) rfl (cvA_one h1 h2) ?_; replace mD := mD.row (cvA (turnK (⟨nx, outs, turn, dl, held⟩ : Cv) (k + 1)) e1 e2); replace mX := mX.farRow (show x5.heap.size + 1 ≠ x5.heap.size by omega) (cvA (turnK (⟨nx, outs, turn, dl, held⟩ : Cv) (k + 1)) e1 e2); replace hal := below_setRow hal (Nat.le_refl _) (cvA (turnK (⟨nx, outs, turn, dl, held⟩ : Cv) (k + 1)) e1 e2); generalize World.setRow ((x5.alloc (.cells #[.int .u32 0, .slice none 0 0, .int .i64 0, .int .u32 0, .slice none 0 0] 26)).alloc (.cells Try.zeroCells39 39)) x5.heap.size (cvA (turnK (⟨nx, outs, turn, dl, held⟩ : Cv) (k + 1)) e1 e2) = y1 at *)
          | (refine wpList_store_row rfl 39 _ _ rfl (x5.heap.size + 1) (outC x).toArray rfl rfl 39 _ mX (sizeOutC _ HXL.out) (by rw [zero39]; exact holdOutC ceZ _ rfl HXL.out) (outC_one _) ?_; replace mX := mX.row (outC x).toArray; replace mD := mD.farRow (show x5.heap.size ≠ x5.heap.size + 1 by omega) (outC x).toArray; replace hal := below_setRow hal (show x5.heap.size ≤ x5.heap.size + 1 by omega) (outC x).toArray; generalize y1.setRow (x5.heap.size + 1) (outC x).toArray = y2 at *)
          | fail)
        have md2 := md.below hal md.lt
        have hby := hbx.trans (hal.mono hbx.size)
        have oc2 := oc.below hal
        have hmb := HMB.out.below hby HMB.out.lt
        have hat2 := hat.below hby
        clear md hbx oc hal
        have hneq := neq_out x x HXL.out HXL.out
        rw [show (!(x == x)) = false by simp] at hneq
        have hgu := fun (p q : Operand) wx => run_eqGuard_agg (P := Try.prog) wx .neq 39 p q (outC x).toArray (outC x).toArray (by kernel_rfl)
        refine mix_start (fun w' => Below y2.heap.size y2 w') (List.range 21) [18] [3, 5, 7, 13, 17] [] (by kernel_rfl) (by kernel_rfl) (fun d _ _ _ _ h => by cases d <;> exact h) (Below.refl _ _).drew ?_
        refine mix_pure rfl rfl (fun K hK => ?_); go_simp; refine hK _ ?_; clear hK K
        refine mix_pure rfl rfl (fun K hK => ?_); go_simp; refine hK _ ?_; clear hK K
        refine mix_pure rfl rfl (fun K hK => ?_); go_simp; refine hK _ ?_; clear hK K
        refine mix_load_row rfl rfl rfl rfl 39 _ rfl (x5.heap.size + 1) rfl (outC x).toArray 39 (0, 0) _ (fun w' hS => mX.below hS mX.lt) Try.underlying39 rfl (sizeOutC x HXL.out) ?_
        generalize hVX : Value.agg (outC x).toArray = VX at *
        refine mix_pure rfl rfl (fun K hK => ?_); go_simp; refine hK _ ?_; clear hK K
        refine mix_read (.slice (some ⟨gO, 0, none⟩) n pO) rfl rfl rfl rfl (fun w' hS => ?_) ?_
        · have k5 : w'.cell? ⟨w.heap.size, 1, none⟩ = some (.slice (some ⟨gO, 0, none⟩) n pO) := (hmb.below hS hmb.lt).cell 1
          go_simp
        refine mix_pure rfl rfl (fun K hK => ?_); go_simp; refine hK _ ?_; clear hK K
        refine mix_read (.int .i64 turn) rfl rfl rfl rfl (fun w' hS => ?_) ?_
        · have k5 : w'.cell? ⟨w.heap.size, 2, none⟩ = some (.int .i64 turn) := (hmb.below hS hmb.lt).cell 2
          go_simp
        refine mix_pure rfl rfl (fun K hK => ?_); go_simp; refine hK _ ?_; clear hK K
        refine mix_pure rfl rfl (fun K hK => ?_); go_simp; refine hK _ ?_; clear hK K
        refine mix_pure rfl rfl (fun K hK => ?_); go_simp; refine hK _ ?_; clear hK K
        refine mix_pure rfl rfl (fun K hK => ?_); go_simp; refine hK _ ?_; clear hK K
        refine mix_pure rfl rfl (fun K hK => ?_); go_simp; refine hK _ ?_; clear hK K
        have hat3 : AtE outEl y2 gO (((turn + (k : Int)) % (n : Int)).toNat * 106) x := by have h3 := hat2; rw [Nat.zero_add] at h3; exact h3
        refine mix_load_cells rfl rfl rfl rfl 39 _ rfl gO (((turn + (k : Int)) % (n : Int)).toNat * 106) rfl (outC x) (fun w' hS => hat3.below hS) _ Try.underlying39 rfl (sizeOutC x HXL.out) ?_
        rw [hVX]
        refine mix_pure rfl rfl (fun K hK => ?_); go_simp; refine hK _ ?_; clear hK K
        refine mix_pure rfl rfl (fun K hK => ?_); go_simp; refine hK _ ?_; clear hK K
        refine mix_pure rfl rfl (fun K hK => ?_); go_simp; refine hK _ ?_; clear hK K
        refine mix_load_row rfl rfl rfl rfl 26 _ rfl x5.heap.size rfl (cvA (turnK (⟨nx, outs, turn, dl, held⟩ : Cv) (k + 1)) e1 e2) 26 (0, 0) _ (fun w' hS => mD.below hS mD.lt) Try.underlying26 rfl (by exact sizeCv) ?_
        refine mix_eff rfl rfl (fun K hK => ?_)
        go_simp
        refine (check_any y2.drew (show ArgC y2.drew _ _ from oc2.arg) (Nat.le_trans (HBO.out (k + 1)) (by decide)) (Nat.le_trans (HBH.out (k + 1)) (by decide))).mono ?_
        rintro e y3 ⟨rfl, hn⟩
        rw [rightC_turnK HR.out hn0 (k + 1)]
        have hy3 : Below y2.heap.size y2 y3 := (Below.refl _ _).drew.trans hn
        refine hK _ _ (fun _ _ => hy3) ?_
        clear hK K hn
        repeat (refine mix_pure rfl rfl (fun K hK => ?_); go_simp; refine hK _ ?_; clear hK K)
        refine mix_nil ?_
        have md3 := md2.below hy3 md2.lt
        have mD3 := mD.below hy3 mD.lt
        have oc3 := oc2.below hy3
        have hb3 := hby.trans (hy3.mono hby.size)
        go_wp2_with (first
          | (refine wpList_load_row rfl 26 _ rfl x5.heap.size rfl 26 (cvA (turnK (⟨nx, outs, turn, dl, held⟩ : Cv) (k + 1)) e1 e2) _ _ mD3 Try.underlying26 rfl (by exact sizeCv) ?_)
          | (refine wpList_store_row rfl 26 _ _ rfl x3.heap.size (cvA (turnK (⟨nx, outs, turn, dl, held⟩ : Cv) (k + 1)) e1 e2) rfl rfl 26 _ md3 (by exact sizeCv) rfl (cvA_one h1 h2) ?_; have md4 := md3.row (cvA (turnK (⟨nx, outs, turn, dl, held⟩ : Cv) (k + 1)) e1 e2); have hb4 := below_setRow hb3 (Nat.le_refl _) (cvA (turnK (⟨nx, outs, turn, dl, held⟩ : Cv) (k + 1)) e1 e2); have oc4 := oc3.upd ((Upd.refl _ _).setRow (cvA (turnK (⟨nx, outs, turn, dl, held⟩ : Cv) (k + 1)) e1 e2)) (Nat.lt_succ_self _))
          | fail)
        go_roundw
        case rel =>
          first | exact ⟨k + 1, e1, e2, by have := HLT.out; omega, by go_num, md4, .inr oc4, hb4⟩ | ((repeat apply Exists.intro); exact ⟨⟨k + 1, e1, e2, by have := HLT.out; omega, by go_num, md4, .inr oc4, hb4⟩, rfl⟩)
        case measure => simp [intOf]; have := HLT.out; omega
      · have hk2 : k = 2 * n := by omega
        have hK8 : turnK (⟨nx, outs, turn, dl, held⟩ : Cv) k = (⟨nx, outs, turn, dl, held⟩ : Cv) := by rw [hk2, ← HNN.out]; exact turnK_round HR.out
        rw [hK8] at md hown
        have hd : ArgC wr (.agg (cvA (⟨nx, outs, turn, dl, held⟩ : Cv) d1 d2)) (⟨nx, outs, turn, dl, held⟩ : Cv) := by
          rcases hown with ⟨_, he⟩ | ho
          · rw [he]; exact HA.out.below hbx
          · exact ho.arg
        have hT := turn_any wr hd (HBO.out 0) (HBH.out 0)
        have HXL : Hid ((turnR (⟨nx, outs, turn, dl, held⟩ : Cv)).2.1.2.length = 105) := by
          obtain ⟨vo', vi', _, ⟨_, _, _, _, hok, _⟩, _⟩ := id HA.out
          exact turnR_len hok
        have hE := HE.out
        simp only [HNN.out] at hE
        have hj1 : ¬ (k : Int) < 2 * (n : Int) := by omega
        have hmb := HMB.out.below hbx HMB.out.lt
        have hda := HA.out.below hbx
        clear hlt hown hk2 hK8 hk
        generalize turnR (⟨nx, outs, turn, dl, held⟩ : Cv) = r at *
        obtain ⟨rc, rx, E⟩ := r
        simp only at hE hT HXL
        go_wp2_with (first | (refine wpList_load_row rfl 26 _ rfl x3.heap.size rfl 26 (cvA (⟨nx, outs, turn, dl, held⟩ : Cv) d1 d2) _ _ md Try.underlying26 rfl (by exact sizeCv) ?_) | fail)
        refine hT.mono ?_
        rintro e x5 ⟨u, rfl, oc, hn5⟩
        clear hT
        obtain ⟨e1, e2, rfl, oe1, oe2⟩ := id oc
        have h1 := oe1.one
        have h2 := oe2.one
        clear oe1 oe2 oc
        replace md := md.below hn5 md.lt
        replace hmb := hmb.below hn5 hmb.lt
        replace hda := hda.below hn5
        replace hd := hd.below hn5
        replace hbx := hbx.trans (hn5.mono hbx.size)
        clear hn5
        have hal : Below x5.heap.size x5 ((x5.alloc (.cells #[.int .u32 0, .slice none 0 0, .int .i64 0, .int .u32 0, .slice none 0 0] 26)).alloc (.cells Try.zeroCells39 39)) := ((Below.refl _ _).alloc (Nat.le_refl _) _).alloc (by simp) _
        have mD := (Blk.new x5 #[.int .u32 0, .slice none 0 0, .int .i64 0, .int .u32 0, .slice none 0 0] 26).alloc (.cells Try.zeroCells39 39)
        have mX := Blk.new (x5.alloc (.cells #[.int .u32 0, .slice none 0 0, .int .i64 0, .int .u32 0, .slice none 0 0] 26)) Try.zeroCells39 39
        rw [show (x5.alloc (.cells #[.int .u32 0, .slice none 0 0, .int .i64 0, .int .u32 0, .slice none 0 0] 26)).heap.size = x5.heap.size + 1 by simp] at mX
        go_wp2_with (first
          | (refine wpList_store_row rfl 26 _ _ rfl x5.heap.size (cvA rc e1 e2) rfl rfl 26 _ mD (by exact sizeCv) rfl (cvA_one h1 h2) ?_; replace mD := mD.row (cvA rc e1 e2); replace mX := mX.farRow (show x5.heap.size + 1 ≠ x5.heap.size by omega) (cvA rc e1 e2); replace hal := below_setRow hal (Nat.le_refl _) (cvA rc e1 e2); generalize World.setRow ((x5.alloc (.cells #[.int .u32 0, .slice none 0 0, .int .i64 0, .int .u32 0, .slice none 0 0] 26)).alloc (.cells Try.zeroCells39 39)) x5.heap.size (cvA rc e1 e2) = y1 at *)
          | (refine wpList_store_row rfl 39 _ _ rfl (x5.heap.size + 1) (outC rx).toArray rfl rfl 39 _ mX (sizeOutC _ HXL.out) (by rw [zero39]; exact holdOutC ceZ _ rfl HXL.out) (outC_one _) ?_; replace mX := mX.row (outC rx).toArray; replace mD := mD.farRow (show x5.heap.size ≠ x5.heap.size + 1 by omega) (outC rx).toArray; replace hal := below_setRow hal (show x5.heap.size ≤ x5.heap.size + 1 by omega) (outC rx).toArray; generalize y1.setRow (x5.heap.size + 1) (outC rx).toArray = y2 at *; have md3 := md.below hal md.lt; have hmb3 := hmb.below hal hmb.lt; have hda3 := hda.below hal; have hd3 := hd.below hal; have hbz3 := hb0.out.trans ((hbx.trans (hal.mono hbx.size)).mono hb0.out.size))
          | (refine wpList_load_row rfl 26 _ rfl w.heap.size rfl 26 #[.int .u32 (wb nx), .slice (some ⟨gO, 0, none⟩) n pO, .int .i64 turn, .int .u32 (wb dl), .slice (some ⟨gI, 0, none⟩) m pI] _ _ hmb3 Try.underlying26 rfl (by exact sizeCv) ?_)
          | (refine wpList_load_row rfl 26 _ rfl x3.heap.size rfl 26 (cvA (⟨nx, outs, turn, dl, held⟩ : Cv) d1 d2) _ _ md3 Try.underlying26 rfl (by exact sizeCv) ?_)
          | fail)
        refine (same_any y2 hda3 hd3 (Nat.le_trans (HBO.out 0) (by decide)) (Nat.le_trans (HBH.out 0) (by decide))).mono ?_
        rintro e y3 ⟨rfl, hn⟩
        rw [HSS.out]
        have hfin := hbz3.trans (hn.mono hbz3.size)
        go_wp2_with fail
        go_ret
        exact ⟨by simp, hfin⟩
end Go.Proofs.Ytjghhbollgggoaa
