/- The reference's Both: two rows of bytes, one behind the other. -/
import Derived.Test.YtjnbgoiaocpcjaaOctRef
namespace Go.Proofs.Ytjnbgoiaocpcjaa
open Go.RowKit
theorem encL_snoc (k : IntKind) {n : Nat} (l : List (BitVec n)) (j : Nat) (h : j < l.length) : encL k (l.take (j + 1)) = encL k (l.take j) ++ [.int k (wb (l.getD j 0))] := by
  rw [take_snoc l 0 j h, encL_append]
  rfl
/-- make([]T, 0, m) of words, where m is worked out. -/
theorem run_make_room {P : Program} (t e : TypeId) (k : IntKind) (n bytes : Nat) (ht : P.underlying t = some (.slice e)) (hi : (P.info? e).map (fun i => (i.zero, i.size, i.bytes)) = some (some (.int k 0), 1, bytes)) (m : Nat) (hm : bytes * m ≤ 281474976710656) (hm2 : m ≤ 9223372036854775807) (wx : World) :
    (Instr.makeSlice t (.int .i64 0) (.int .i64 (m : Int))).run P wx = .ok (.slice (some ⟨wx.heap.size, 0, none⟩) 0 m) (wx.alloc (.cells (encs k (List.replicate m (0 : BitVec n))) e)) := by
  obtain ⟨i, hi, hz, hs, hb⟩ := info_parts hi
  have := run_make (P := P) wx t e i (.int k 0) ht hi hz .i64 .i64 0 (m : Int) (by omega) (by omega) (by rw [hb, ← Int.natCast_mul]; omega) (by omega)
  rw [Int.toNat_natCast, hs, Nat.mul_one] at this
  rw [show (0 : Int).toNat = 0 from rfl] at this
  rw [this]
  simp only [Value.cells, madeCells_words k (n := n)]
theorem owns_made {w : World} {base g m : Nat} {e : TypeId} {k : IntKind} {n : Nat} {l : List (BitVec n)} (h : Blk w g (encs k l) e) (hb : base ≤ g) (hl : l.length = m) (hm : m ≤ maxLen) : w.ownsRow base e 1 (.slice (some ⟨g, 0, none⟩) 0 m) 0 [] :=
  ⟨rfl, .inr ⟨g, m, _, rfl, hb, h, by omega, hm, by rw [encs_size, hl]; omega, rfl⟩⟩
end Go.Proofs.Ytjnbgoiaocpcjaa
