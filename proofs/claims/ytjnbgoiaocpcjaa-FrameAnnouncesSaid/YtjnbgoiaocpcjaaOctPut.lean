/- octet.put and its kin: a number's lowest bytes behind other bytes, in a row of the call's own. -/
import Derived.Test.YtjnbgoiaocpcjaaClone
import Derived.Test.YtjnbgoiaocpcjaaOctPure
namespace Go.Proofs.Ytjnbgoiaocpcjaa
open Go.RowKit
theorem conv64_8 (x : BitVec 64) : IntKind.u8.wrap (wb x) = wb (x.setWidth 8) := conv_u8 x
theorem shr8_64 (x : BitVec 64) : wb x / (256 : Int) = wb (x >>> 8) := wb_shr x 8
attribute [local go_sem] conv64_8 shr8_64
set_option maxHeartbeats 1000000 in
theorem put_any (b : List (BitVec 8)) (A : Option Addr) (cap : Nat) (x : BitVec 64) (n : Nat) (w : World) (hR : Rd w .u8 A b) (hn : n ≤ 8) (hlen : b.length + n ≤ 140737488355328) :
    Calls Try.prog 73 #[.slice A b.length cap, .int .u64 (wb x), .int .i64 n] w (RetOwn w 5 .u8 (b ++ low x n)) := by
  have hcl := Lib.hid (clone_any b A cap w hR (by omega))
  obtain ⟨len, hlb⟩ : ∃ len, len = b.length := ⟨_, rfl⟩
  rw [← hlb] at hlen hcl ⊢
  have HL := Lib.hid hlb
  clear hlb
  go_enter Try.func73, Try.ntmps73
  go_wp2_with fail
  refine hcl.out.mono ?_
  rintro e w1 ⟨v, rfl, hown, hb⟩
  clear hcl
  go_wp2_with fail
  go_loopw [0, 1, 10] (fun v x' i wr => ∃ k : Nat, k ≤ n ∧ i = .int .i64 k ∧ x' = .int .u64 (wb (x >>> (8 * k))) ∧ wr.ownsRow w.heap.size 5 1 v (len + k) (encL .u8 (b ++ low x k)) ∧ Below w.heap.size w wr) (fun _ _ i _ => n - (intOf i).toNat)
  case atStart => exact ⟨0, Nat.zero_le _, rfl, by simp, by simp only [low, List.append_nil]; rw [HL.out]; exact hown, hb⟩
  case round =>
    clear hown hb
    obtain ⟨k, hk, rfl, rfl, hown, hb⟩ := hrel
    by_cases hlt : k < n
    · have i1 : (k : Int) < (n : Int) := by omega
      go_wp2_with (first | (at_builtin; refine wpList_append_row rfl _ _ bytesT rfl w.heap.size _ (len + k) _ rfl (hown.alloc _) (some ⟨wr.heap.size, 0, none⟩) 1 1 [.int .u8 (wb ((x >>> (8 * k)).setWidth 8))] rfl rfl (Blk.new _ _ _).cells (by simp [Value.oneCell']) (by omega) (by have := hb.size; simp; omega) ?_; intro v1 w2 hown2 hgr hat))
      have hrow : w2.ownsRow w.heap.size 5 1 v1 (len + (k + 1)) (encL .u8 (b ++ low x (k + 1))) := by
        rw [low_succ, ← List.append_assoc, encL_append]
        exact hown2
      have hb2 : Below w.heap.size w w2 := below_grown (hb.alloc hb.size _) (by have := hb.size; simp; omega) hgr (fun q hq => (hown.lt q hq).1)
      have hsh := shr_add x (8 * k) 8
      have HS := Lib.hid hsh
      clear hown hown2 hgr hat hb hsh
      go_roundw
      case rel => exact ⟨k + 1, by omega, by go_num, by rw [HS.out]; rfl, hrow, hb2⟩
      case measure => simp [intOf]; omega
    · obtain rfl : k = n := by omega
      go_wp2_with fail
      go_ret
      exact ⟨_, rfl, by rw [List.length_append, low_length, ← HL.out]; exact hown, hb⟩
theorem conv16_64 (x : BitVec 16) : IntKind.u64.wrap (wb x) = wb (x.setWidth 64) := conv_u64 x
theorem conv32_64 (x : BitVec 32) : IntKind.u64.wrap (wb x) = wb (x.setWidth 64) := conv_u64 x
attribute [local go_sem] conv16_64 conv32_64
set_option maxHeartbeats 1000000 in
theorem put32_any (b : List (BitVec 8)) (A : Option Addr) (cap : Nat) (x : BitVec 32) (w : World) (hR : Rd w .u8 A b) (hlen : b.length + 4 ≤ 140737488355328) :
    Calls Try.prog 52 #[.slice A b.length cap, .int .u32 (wb x)] w (RetOwn w 5 .u8 (b ++ low (x.setWidth 64) 4)) := by
  have hc := Lib.hid (put_any b A cap (x.setWidth 64) 4 w hR (by omega) hlen)
  generalize b.length = len at *
  go_enter Try.func52, Try.ntmps52
  go_wp2_with fail
  refine hc.out.mono ?_
  rintro e w1 ⟨v, rfl, hown, hb⟩
  go_wp2_with fail
  go_ret
  exact ⟨_, rfl, hown, hb⟩
set_option maxHeartbeats 1000000 in
theorem put64_any (b : List (BitVec 8)) (A : Option Addr) (cap : Nat) (x : BitVec 64) (w : World) (hR : Rd w .u8 A b) (hlen : b.length + 8 ≤ 140737488355328) :
    Calls Try.prog 67 #[.slice A b.length cap, .int .u64 (wb x)] w (RetOwn w 5 .u8 (b ++ low x 8)) := by
  have hc := Lib.hid (put_any b A cap x 8 w hR (by omega) hlen)
  generalize b.length = len at *
  go_enter Try.func67, Try.ntmps67
  go_wp2_with fail
  refine hc.out.mono ?_
  rintro e w1 ⟨v, rfl, hown, hb⟩
  go_wp2_with fail
  go_ret
  exact ⟨_, rfl, hown, hb⟩
end Go.Proofs.Ytjnbgoiaocpcjaa
