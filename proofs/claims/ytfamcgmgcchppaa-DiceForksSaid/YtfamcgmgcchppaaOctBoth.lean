/- The reference's Both: two rows of bytes, one behind the other. -/
import Derived.Test.YtfamcgmgcchppaaOctRef
namespace Go.Proofs.Ytfamcgmgcchppaa
open Go.RowKit
theorem encL_snoc (k : IntKind) {n : Nat} (l : List (BitVec n)) (j : Nat) (h : j < l.length) : encL k (l.take (j + 1)) = encL k (l.take j) ++ [.int k (wb (l.getD j 0))] := by
  rw [take_snoc l 0 j h, encL_append]
  rfl
/-- make([]T, 0, m) of words, where m is worked out. -/
theorem run_make_room {P : Program} (t e : TypeId) (k : IntKind) (n bytes : Nat) (ht : P.underlying t = some (.slice e)) (hi : (P.info? e).map (fun i => (i.zero, i.size, i.bytes)) = some (some (.int k 0), 1, bytes)) (m : Nat) (hm : bytes * m ≤ 281474976710656) (hm2 : m ≤ 9223372036854775807) (wx : World) :
    (Instr.makeSlice t (.int .i64 0) (.int .i64 (m : Int))).run P wx = .ok (.slice (some ⟨wx.heap.size, 0, none⟩) 0 m) (wx.alloc (.cells (encs k (List.replicate m (0 : BitVec n))) e)) := by
  obtain ⟨i, hi, hz, hs, hb⟩ := info_parts hi
  have := run_make (P := P) wx t e i (.int k 0) ht hi hz .i64 .i64 0 (m : Int) (by omega) (by omega) (by rw [hb, ← Int.natCast_mul]; omega) (by omega)
  rw [Int.toNat_natCast, hs, Nat.mul_one] at this
  rw [show (0 : Int).toNat = 0 from rfl] at this
  rw [this]
  simp only [Value.cells, madeCells_words k (n := n)]
theorem owns_made {w : World} {base g m : Nat} {e : TypeId} {k : IntKind} {n : Nat} {l : List (BitVec n)} (h : Blk w g (encs k l) e) (hb : base ≤ g) (hl : l.length = m) (hm : m ≤ maxLen) : w.ownsRow base e 1 (.slice (some ⟨g, 0, none⟩) 0 m) 0 [] :=
  ⟨rfl, .inr ⟨g, m, _, rfl, hb, h, by omega, hm, by rw [encs_size, hl]; omega, rfl⟩⟩
set_option maxHeartbeats 2000000 in
theorem both_any (l m : List (BitVec 8)) (A B : Option Addr) (cap cap' : Nat) (w : World) (hR : Rd w .u8 A l) (hM : Rd w .u8 B m) (hlen : l.length + m.length ≤ 140737488355328) :
    Calls Try.prog 24 #[.slice A l.length cap, .slice B m.length cap'] w (RetOwn w 5 .u8 (l ++ m)) := by
  obtain ⟨len, hl⟩ : ∃ len, len = l.length := ⟨_, rfl⟩
  obtain ⟨lem, hm⟩ : ∃ lem, lem = m.length := ⟨_, rfl⟩
  rw [← hl, ← hm] at hlen
  rw [← hl, ← hm]
  have HL := Lib.hid hl
  have HM := Lib.hid hm
  clear hl hm
  have hmk := fun wx => run_make_room (P := Try.prog) 22 5 .u8 8 1 Try.underlying22 bytesT.hi (len + lem) (by omega) (by omega) wx
  rw [Int.natCast_add] at hmk
  have b1 : (len : Int) + (lem : Int) ≤ 140737488355328 := by omega
  go_enter Try.func24, Try.ntmps24
  go_wp2_with fail
  clear hmk
  go_loopw [5, 6] (fun v i wr => ∃ k : Nat, k ≤ len ∧ i = .int .i64 k ∧ wr.ownsRow w.heap.size 5 1 v k (encL .u8 (l.take k)) ∧ Below w.heap.size w wr) (fun _ i _ => len - (intOf i).toNat)
  case atStart => exact ⟨0, Nat.zero_le _, rfl, owns_made (Blk.new _ _ _) (Nat.le_refl _) (by simp) (by unfold maxLen; omega), (Below.refl _ _).alloc (Nat.le_refl _) _⟩
  case round =>
    obtain ⟨k, hk, rfl, hown, hb⟩ := hrel
    by_cases hlt : k < len
    · have i1 : (k : Int) < (len : Int) := by omega
      obtain ⟨g, off, rfl, hc1⟩ := hR k (by rw [← HL.out]; exact hlt)
      replace hc1 := below_cell hb hc1
      have HS := Lib.hid (encL_snoc .u8 l k (by rw [← HL.out]; exact hlt))
      generalize l.getD k 0 = lk at *
      go_wp2_with (first | (at_builtin; refine wpList_append_row rfl _ _ bytesT rfl w.heap.size _ k _ rfl (hown.alloc _) (some ⟨wr.heap.size, 0, none⟩) 1 1 [.int .u8 (wb lk)] rfl rfl (Blk.new _ _ _).cells (by simp [Value.oneCell']) (by omega) (by have := hb.size; simp; omega) ?_; intro v1 w2 hown2 hgr hat))
      have hb2 : Below w.heap.size w w2 := below_grown (hb.alloc hb.size _) (by have := hb.size; simp; omega) hgr (fun q hq => (hown.lt q hq).1)
      rw [← HS.out] at hown2
      clear hgr hat hown hb
      go_roundw
      case rel =>
        first | exact ⟨k + 1, by omega, by go_num, hown2, hb2⟩ | ((repeat apply Exists.intro); exact ⟨⟨k + 1, by omega, by go_num, hown2, hb2⟩, rfl⟩)
      case measure => simp [intOf]; omega
    · obtain rfl : k = len := by omega
      rw [List.take_of_length_le (by rw [HL.out]; omega)] at hown
      go_wp2_with fail
      clear hk hlt
      go_loopw [5, 7] (fun v i wr => ∃ j : Nat, j ≤ lem ∧ i = .int .i64 j ∧ wr.ownsRow w.heap.size 5 1 v (k + j) (encL .u8 (l ++ m.take j)) ∧ Below w.heap.size w wr) (fun _ i _ => lem - (intOf i).toNat)
      case atStart => exact ⟨0, Nat.zero_le _, rfl, by simpa using hown, hb⟩
      case round =>
        clear hown hb
        obtain ⟨j, hk, rfl, hown, hb⟩ := hrel
        by_cases hlt : j < lem
        · have i1 : (j : Int) < (lem : Int) := by omega
          obtain ⟨g, off, rfl, hc1⟩ := hM j (by rw [← HM.out]; exact hlt)
          replace hc1 := below_cell hb hc1
          have HS : Hid (encL .u8 (l ++ m.take (j + 1)) = encL .u8 (l ++ m.take j) ++ [.int .u8 (wb (m.getD j 0))]) := by
            rw [encL_append, encL_append, encL_snoc .u8 m j (by rw [← HM.out]; exact hlt), List.append_assoc]
            rfl
          generalize m.getD j 0 = mk at *
          go_wp2_with (first | (at_builtin; refine wpList_append_row rfl _ _ bytesT rfl w.heap.size _ (k + j) _ rfl (hown.alloc _) (some ⟨_, 0, none⟩) 1 1 [.int .u8 (wb mk)] rfl rfl (Blk.new _ _ _).cells (by simp [Value.oneCell']) (by omega) (by have := hb.size; simp; omega) ?_; intro v1 w2 hown2 hgr hat))
          have hb2 : Below w.heap.size w w2 := below_grown (hb.alloc hb.size _) (by have := hb.size; simp; omega) hgr (fun q hq => (hown.lt q hq).1)
          rw [← HS.out] at hown2
          clear hgr hat hown hb
          go_roundw
          case rel =>
            first | exact ⟨j + 1, by omega, by go_num, hown2, hb2⟩ | ((repeat apply Exists.intro); exact ⟨⟨j + 1, by omega, by go_num, hown2, hb2⟩, rfl⟩)
          case measure => simp [intOf]; omega
        · obtain rfl : j = lem := by omega
          rw [List.take_of_length_le (by rw [HM.out]; omega)] at hown
          go_wp2_with fail
          go_ret
          exact ⟨_, rfl, by rw [List.length_append, ← HL.out, ← HM.out]; exact hown, hb⟩
end Go.Proofs.Ytfamcgmgcchppaa
