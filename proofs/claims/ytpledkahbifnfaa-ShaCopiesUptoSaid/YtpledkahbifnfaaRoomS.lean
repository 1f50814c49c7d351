/- The law's helper room: bytes with room behind them. -/
import Derived.Test.YtpledkahbifnfaaArgV0
import Derived.Test.YtpledkahbifnfaaBEq
namespace Go.Proofs.Ytpledkahbifnfaa
open Go.RowKit
set_option linter.unusedVariables false
set_option linter.unusedSimpArgs false
theorem run_make_room0 {P : Program} (t e : TypeId) (k : IntKind) (n bytes : Nat) (ht : P.underlying t = some (.slice e)) (hi : (P.info? e).map (fun i => (i.zero, i.size, i.bytes)) = some (some (.int k 0), 1, bytes)) (m : Nat) (hm : bytes * m ≤ 281474976710656) (hm2 : m ≤ 9223372036854775807) (wx : World) :
    (Instr.makeSlice t (.int .i64 0) (.int .i64 (m : Int))).run P wx = .ok (.slice (some ⟨wx.heap.size, 0, none⟩) 0 m) (wx.alloc (.cells (encs k (List.replicate m (0 : BitVec n))) e)) := by
  obtain ⟨i, hi, hz, hs, hb⟩ := info_parts hi
  have := run_make (P := P) wx t e i (.int k 0) ht hi hz .i64 .i64 0 (m : Int) (by omega) (by omega) (by rw [hb, ← Int.natCast_mul]; omega) (by omega)
  rw [Int.toNat_natCast, hs, Nat.mul_one] at this
  rw [show (0 : Int).toNat = 0 from rfl] at this
  rw [this]
  simp only [Value.cells, madeCells_words k (n := n)]
theorem owns_made0 {w : World} {base g m : Nat} {e : TypeId} {k : IntKind} {n : Nat} {l : List (BitVec n)} (h : Blk w g (encs k l) e) (hb : base ≤ g) (hl : l.length = m) (hm : m ≤ maxLen) : w.ownsRow base e 1 (.slice (some ⟨g, 0, none⟩) 0 m) 0 [] :=
  ⟨rfl, .inr ⟨g, m, _, rfl, hb, h, by omega, hm, by rw [encs_size, hl]; omega, rfl⟩⟩

/-- Bytes with a 7 behind them, in memory of the call's own. -/
def RoomD (w : World) (l : List (BitVec 8)) (e : Ending) (w' : World) : Prop :=
  ∃ g cap, e = .returned (.slice (some ⟨g, 0, none⟩) l.length cap) ∧ OwnB w' w.heap.size (.slice (some ⟨g, 0, none⟩) (l.length + 1) cap) (l ++ [7]) ∧ l.length + 1 ≤ cap ∧ Below w.heap.size w w'
theorem rd_left {w : World} {A : Option Addr} {l m : List (BitVec 8)} (h : Rd w .u8 A (l ++ m)) : Rd w .u8 A l := fun i hi => by
  obtain ⟨g, off, h1, h2⟩ := h i (by rw [List.length_append]; omega)
  refine ⟨g, off, h1, ?_⟩
  rw [h2]
  simp [List.getD, List.getElem?_append_left hi]
theorem OwnB.rd {w : World} {base : Nat} {A : Option Addr} {n c : Nat} {l : List (BitVec 8)} (h : OwnB w base (.slice A n c) l) : Rd w .u8 A l := by
  obtain ⟨A', c', he, _, hr⟩ := ownsRow_rd h
  cases he
  exact hr
set_option maxRecDepth 100000 in
set_option maxHeartbeats 1000000 in
theorem room_v {w : World} {v : Value} {l : List (BitVec 8)} (h : Arg w v l) (hlen : l.length ≤ 140737488351232) : Calls Try.prog 19 #[v] w (RoomD w l) := by
  obtain ⟨A, cap, rfl, hc, hr⟩ := h
  have HA : Hid (Arg w (.slice A l.length cap) l) := ⟨A, cap, rfl, hc, hr⟩
  have hmk := fun wx => run_make_room0 (P := Try.prog) 22 5 .u8 8 1 Try.underlying22 bytesT.hi (l.length + 70) (by omega) (by omega) wx
  rw [Int.natCast_add, show ((70 : Nat) : Int) = 70 from rfl] at hmk
  have hle : Hid ((l ++ [(7 : BitVec 8)]).length = l.length + 1) := by simp [Hid]
  unfold RoomD
  obtain ⟨len, hl⟩ : ∃ len, len = l.length := ⟨_, rfl⟩
  rw [← hl] at hlen hmk hle HA hc ⊢
  have HL := Lib.hid hl
  clear hl hr
  go_enter Try.func19, Try.ntmps19
  have hb0 : Below w.heap.size w (w.alloc (.cells (encs .u8 (List.replicate (len + 70) (0 : BitVec 8))) 5)) := (Below.refl _ _).alloc (Nat.le_refl _) _
  have h0 : OwnB (w.alloc (.cells (encs .u8 (List.replicate (len + 70) (0 : BitVec 8))) 5)) w.heap.size (.slice (some ⟨w.heap.size, 0, none⟩) 0 (len + 70)) [] := owns_made0 (Blk.new _ _ _) (Nat.le_refl _) (by simp) (by unfold maxLen; omega)
  go_wp2_with (first | (at_builtin; refine wpList_app rfl _ _ rfl w.heap.size _ _ rfl h0 _ _ rfl (HA.out.below hb0) (by rw [← HL.out]; simp; omega) (by simp) ?_; intro v1 w1 h1 hb1; clear h0; rw [List.nil_append] at h1; replace hb1 := hb0.trans hb1; clear hb0 hmk) | (at_builtin; refine wpList_app rfl _ _ rfl w.heap.size _ _ rfl (h1.below ((Below.refl _ _).alloc (Nat.le_refl _) _)) _ [7] rfl ⟨_, 1, rfl, Nat.le_refl _, (Blk.new _ _ _).rd⟩ (by rw [← HL.out]; simp; omega) (hb1.alloc hb1.size _).size ?_; intro v2 w2 h2 hb2; clear h1; replace hb2 := (hb1.alloc hb1.size (.cells #[.int .u8 7] 5)).trans hb2; clear hb1; obtain ⟨g2, c2, rfl, hg2, _⟩ := World.ownsRow.form h2 (by rw [hle.out]; omega); obtain ⟨A', c', he, hc2, _⟩ := h2.arg; cases he; rw [hle.out] at hc2 h2 ⊢; have hs1 := fun wx => run_slice_to (P := Try.prog) bytesT (some ⟨g2, 0, none⟩) (len + 1) c2 (len : Int) .i64 (by omega) (by omega) wx; rw [cutA_zero, Int.toNat_natCast] at hs1) | fail)
  go_ret
  exact ⟨g2, c2, rfl, h2, hc2, hb2⟩
end Go.Proofs.Ytpledkahbifnfaa
