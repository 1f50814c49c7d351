/- frame's reference: low, num, Both. -/
import Derived.Test.YtjnbgoiaocpcjaaFrGet
namespace Go.Proofs.Ytjnbgoiaocpcjaa
open Go.RowKit
theorem conv64_8c (x : BitVec 64) : IntKind.u8.wrap (wb x) = wb (x.setWidth 8) := conv_u8 x
attribute [local go_sem] conv64_8c
set_option maxHeartbeats 1000000 in
theorem rlow14_any (x : BitVec 64) (n : Nat) (w : World) (hn : n ≤ 8) :
    Calls Try.prog 54 #[.int .u64 (wb x), .int .i64 n] w (RetOwn w 5 .u8 (low x n)) := by
  go_enter Try.func54, Try.ntmps54
  go_wp2_with fail
  go_loopw [5, 6] (fun v i wr => ∃ k : Nat, k ≤ n ∧ i = .int .i64 k ∧ OwnB wr w.heap.size v (low x k) ∧ Below w.heap.size w wr) (fun _ i _ => n - (intOf i).toNat)
  case atStart => exact ⟨0, Nat.zero_le _, rfl, World.ownsRow_nil _ _ _ _, Below.refl _ _⟩
  case round =>
    obtain ⟨k, hk, rfl, hown, hb⟩ := hrel
    by_cases hlt : k < n
    · have i1 : (k : Int) < (n : Int) := by omega
      obtain ⟨m, hm, hsh⟩ : ∃ m : Int, IntKind.i64.wrap (8 * (k : Int)) = m ∧ Op.shift .shr .u64 (wb x) .i64 m = pure (.int .u64 (wb (x >>> (8 * k)))) := by
        refine ⟨8 * k, IntWalk.i64_in _ (by omega), ?_⟩
        rw [shift_shr_any _ _ _ _ (by omega), ← wb_shr x (8 * k)]
        have e : (8 * (k : Int)).toNat = 8 * k := by omega
        rw [e, Nat.min_eq_left (by show _ ≤ 64; omega)]
      go_wp2_with (first | (at_builtin; refine wpList_app rfl _ _ rfl w.heap.size _ _ rfl (OwnB.below hown ((Below.refl _ _).alloc (Nat.le_refl _) _)) _ [(x >>> (8 * k)).setWidth 8] rfl ⟨_, 1, rfl, Nat.le_refl _, (Blk.new _ _ _).rd⟩ (by rw [low_length]; simp; omega) (by have := hb.size; simp; omega) ?_; intro v1 w2 hown2 hb2) | fail)
      exact ⟨⟨k + 1, by omega, by go_num, hown2, (hb.alloc hb.size _).trans hb2⟩, by simp [intOf]; omega⟩
    · obtain rfl : k = n := by omega
      go_wp2_with fail
      go_ret
      exact ⟨_, rfl, hown, hb⟩
theorem conv8_64c (x : BitVec 8) : IntKind.u64.wrap (wb x) = wb (x.setWidth 64) := conv_u64 x
theorem mul256c (x : BitVec 64) : IntKind.u64.wrap (wb x * 256) = wb (x <<< 8) := shl_u64 x 8
attribute [local go_sem] conv8_64c mul256c bits_or_u64
theorem num_step (l : List (BitVec 8)) (k : Nat) (h : k < l.length) : num (l.drop k) = (num (l.drop (k + 1))) <<< 8 ||| (l.getD k 0).setWidth 64 := by
  rw [num_drop l k h, add_or8, BitVec.or_comm]
set_option maxHeartbeats 1000000 in
theorem rnum14_any (l : List (BitVec 8)) (A : Option Addr) (cap : Nat) (w : World) (hR : Rd w .u8 A l) (hlen : l.length ≤ 140737488355328) :
    Calls Try.prog 58 #[.slice A l.length cap] w fun e w' => e = .returned (.int .u64 (wb (num l))) ∧ w = w' := by
  have HS := Lib.hid (num_step l)
  have H0 : Hid (num l = num (l.drop 0)) := rfl
  have HE : Hid (num (l.drop l.length) = 0) := by show _ = _; rw [List.drop_length]; rfl
  rw [H0.out]
  clear H0
  obtain ⟨len, hl⟩ : ∃ len, len = l.length := ⟨_, rfl⟩
  rw [← hl] at hlen HS HE ⊢
  have HL := Lib.hid hl
  clear hl
  go_enter Try.func58, Try.ntmps58
  go_wp2_with fail
  go_loop [3, 4] (fun x i => ∃ k : Nat, k ≤ len ∧ i = .int .i64 ((k : Int) - 1) ∧ x = .int .u64 (wb (num (l.drop k)))) (fun _ i => (intOf i + 1).toNat)
  case atStart => exact ⟨len, Nat.le_refl _, by go_num, by rw [HE.out]; rfl⟩
  case round =>
    obtain ⟨k', hk, rfl, rfl⟩ := hrel
    by_cases hlt : 1 ≤ k'
    · obtain ⟨k, rfl⟩ : ∃ k, k' = k + 1 := ⟨k' - 1, by omega⟩
      have e1 : ((k + 1 : Nat) : Int) - 1 = (k : Int) := by omega
      rw [e1]
      clear e1
      have i1 : (k : Int) < (len : Int) := by omega
      obtain ⟨g, off, rfl, hcell⟩ := hR k (by rw [← HL.out]; omega)
      have hx := Lib.hid (HS.out k (by omega))
      generalize l.getD k 0 = ck at *
      generalize num (l.drop (k + 1)) = hk1 at *
      go_wp2_with fail
      go_round
      case rel => exact ⟨k, by omega, rfl, by rw [hx.out]⟩
      case measure => simp [intOf]
    · obtain rfl : k' = 0 := by omega
      go_wp2_with fail
      go_ret
      exact ⟨rfl, rfl⟩
/-- A slice of slices of bytes. -/
def Args (w : World) (A : Option Addr) (ms : List (List (BitVec 8))) : Prop := ∀ i, i < ms.length → ∃ g off v, A = some ⟨g, off, none⟩ ∧ w.cell? ⟨g, off + i, none⟩ = some v ∧ Arg w v (ms.getD i [])
theorem Args.nil (w : World) : Args w none [] := fun i hi => by simp at hi
theorem Args.below {w w' : World} {A : Option Addr} {ms : List (List (BitVec 8))} (h : Args w A ms) (hb : Below w.heap.size w w') : Args w' A ms := fun i hi => by
  obtain ⟨g, off, v, rfl, hc, ha⟩ := h i hi
  exact ⟨g, off, v, rfl, (hb.cell (World.block_lt_of_cell? _ _ hc)).trans hc, ha.below hb⟩
theorem flat_take (ms : List (List (BitVec 8))) (k : Nat) (h : k < ms.length) : (ms.take (k + 1)).flatten = (ms.take k).flatten ++ ms.getD k [] := by
  rw [List.take_succ_eq_append_getElem h, List.flatten_append]
  simp [List.getD, h]
set_option maxHeartbeats 1000000 in
theorem rboth14_any (b : List (BitVec 8)) (v : Value) (ms : List (List (BitVec 8))) (A : Option Addr) (cap : Nat) (w : World) (hv : Arg w v b) (hA : Args w A ms) (hlen : b.length + ms.flatten.length ≤ 140737488355328) (hml : ms.length ≤ 1000) :
    Calls Try.prog 53 #[v, .slice A ms.length cap] w (RetOwn w 5 .u8 (b ++ ms.flatten)) := by
  have HS := Lib.hid (flat_take ms)
  have H0 : Hid ((ms.take 0).flatten = []) := by rfl
  have HE : Hid ((ms.take ms.length).flatten = ms.flatten) := by show _ = _; rw [List.take_length]
  have HLE : Hid (∀ k, k < ms.length → b.length + (ms.take k).flatten.length + (ms.getD k []).length ≤ 140737488355328) := fun k hk => by
    have h1 := congrArg List.length (flat_take ms k hk)
    have h2 : (ms.take (k + 1)).flatten.length ≤ ms.flatten.length := by
      conv => rhs; rw [← List.take_append_drop (k + 1) ms, List.flatten_append, List.length_append]
      omega
    rw [List.length_append] at h1
    omega
  obtain ⟨len, hl⟩ : ∃ len, len = ms.length := ⟨_, rfl⟩
  have HA : Hid (Args w A ms) := hA
  clear hA
  rw [← hl] at hml HS HE HLE ⊢
  have HL := Lib.hid hl
  clear hl
  go_enter Try.func53, Try.ntmps53
  go_wp2_with (first | (at_builtin; refine wpList_app rfl _ _ rfl w.heap.size _ _ rfl (OwnB.empty (Nat.le_refl _)) _ _ rfl (hv.below ((Below.refl _ _).alloc (Nat.le_refl _) _)) (by simp; omega) (by simp) ?_; intro v1 w1 h1 hb1) | fail)
  replace hb1 := ((Below.refl _ _).alloc (Nat.le_refl w.heap.size) (.cells #[] 5)).trans hb1
  go_loopw [5, 13] (fun v i wr => ∃ k : Nat, k ≤ len ∧ i = .int .i64 k ∧ OwnB wr w.heap.size v (b ++ (ms.take k).flatten) ∧ Below w.heap.size w wr) (fun _ i _ => len - (intOf i).toNat)
  case atStart => exact ⟨0, Nat.zero_le _, rfl, by rw [H0.out, List.append_nil]; exact h1, hb1⟩
  case round =>
    clear h1 hb1
    obtain ⟨k, hk, rfl, hown, hb⟩ := hrel
    by_cases hlt : k < len
    · have i1 : (k : Int) < (len : Int) := by omega
      obtain ⟨g, off, u, rfl, hcell, hu⟩ := (HA.out.below hb) k (by rw [← HL.out]; exact hlt)
      go_wp2_with (first | (at_builtin; refine wpList_app rfl _ _ rfl w.heap.size _ _ rfl hown _ _ rfl hu (by rw [List.length_append]; exact HLE.out k hlt) hb.size ?_; intro v2 w2 hown2 hb2) | fail)
      rw [List.append_assoc, ← HS.out k hlt] at hown2
      go_roundw
      case rel => exact ⟨k + 1, by omega, by go_num, hown2, hb.trans hb2⟩
      case measure => simp [intOf]; omega
    · obtain rfl : k = len := by omega
      go_wp2_with fail
      go_ret
      exact ⟨_, rfl, by rw [HE.out] at hown; exact hown, hb⟩
end Go.Proofs.Ytjnbgoiaocpcjaa
