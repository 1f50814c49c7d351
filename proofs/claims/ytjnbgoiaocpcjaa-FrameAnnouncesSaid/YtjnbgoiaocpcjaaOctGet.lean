/- octet.Get64, Equal, Zero: bytes that are read. -/
import Derived.Test.YtjnbgoiaocpcjaaOctPut
import Derived.Test.YtjnbgoiaocpcjaaPart
namespace Go.Proofs.Ytjnbgoiaocpcjaa
open Go.RowKit
theorem rd_take {w : World} {k : IntKind} {n : Nat} {A : Option Addr} {b : List (BitVec n)} (h : Rd w k A b) (L : Nat) : Rd w k A (b.take L) := fun i hi => by
  rw [List.length_take] at hi
  obtain ⟨g, off, hA, hc⟩ := h i (by omega)
  refine ⟨g, off, hA, ?_⟩
  rw [hc]
  simp [List.getD, show i < L by omega]
theorem num_take (l : List (BitVec 8)) (k : Nat) (h : k < l.length) : num (l.take (k + 1)) = num (l.take k) ||| (l.getD k 0).setWidth 64 <<< (8 * k) := by
  rw [List.take_succ_eq_append_getElem h, num_snoc, List.length_take, Nat.min_eq_left (by omega)]
  simp [List.getD, h]
theorem conv8_64 (x : BitVec 8) : IntKind.u64.wrap (wb x) = wb (x.setWidth 64) := conv_u64 x
attribute [local go_sem] conv8_64 bits_or_u64 min_imin
set_option maxHeartbeats 1000000 in
theorem get64_any (l : List (BitVec 8)) (A : Option Addr) (cap : Nat) (w : World) (hR : Rd w .u8 A l) (hcap : l.length ≤ cap) :
    Calls Try.prog 76 #[.slice A l.length cap] w fun e w' => e = .returned (.int .u64 (wb (get64 l))) ∧ w = w' := by
  obtain ⟨m, hm⟩ : ∃ m, m = min l.length 8 := ⟨_, rfl⟩
  obtain ⟨c, hc⟩ : ∃ c, c = l.take m := ⟨_, rfl⟩
  have hget : Hid (get64 l = num c) := by rw [hc, hm, get64, List.take_eq_take_min, Nat.min_comm]; rfl
  have hcl : Hid (c.length = m) := by rw [hc, List.length_take]; show min m l.length = m; omega
  have hRc : Rd w .u8 A c := by rw [hc]; exact rd_take hR m
  have hmin : imin (l.length : Int) 8 = (m : Int) := by rw [hm]; exact imin_nat l.length 8
  have hm8 : m ≤ 8 := by omega
  have hmc : (m : Int) ≤ (cap : Int) := by omega
  rw [hget.out]
  clear hc hm hR hget
  generalize l.length = len at *
  go_enter Try.func76, Try.ntmps76
  go_wp2_with fail
  clear hmin
  go_loop [3, 12] (fun x i => ∃ k : Nat, k ≤ m ∧ i = .int .i64 k ∧ x = .int .u64 (wb (num (c.take k)))) (fun _ i => m - (intOf i).toNat)
  case atStart => exact ⟨0, Nat.zero_le _, rfl, rfl⟩
  case round =>
    obtain ⟨k, hk, rfl, rfl⟩ := hrel
    by_cases hlt : k < m
    · have i1 : (k : Int) < (m : Int) := by omega
      obtain ⟨g, off, rfl, hcell⟩ := hRc k (by rw [hcl.out]; exact hlt)
      have i2 : 8 * (k : Int) < 64 := by omega
      have hn := Lib.hid (num_take c k (by rw [hcl.out]; exact hlt))
      generalize c.getD k 0 = ck at *
      have hsh : ∀ y : BitVec 64, IntKind.u64.wrap (wb y * 2 ^ (8 * k)) = wb (y <<< (8 * k)) := fun y => shl_u64 y (8 * k)
      go_wp2_with fail
      go_round
      case rel => exact ⟨k + 1, by omega, by go_num, by rw [hn.out]⟩
      case measure => simp [intOf]; omega
    · obtain rfl : k = m := by omega
      go_wp2_with fail
      go_ret
      exact ⟨by rw [List.take_of_length_le (by rw [hcl.out]; omega)]; rfl, rfl⟩

theorem or_zero8 (a b : BitVec 8) : a ||| b = 0 ↔ a = 0 ∧ b = 0 := BitVec.or_eq_zero_iff
theorem xor_zero8 (a b : BitVec 8) : a ^^^ b = 0 ↔ a = b := BitVec.xor_eq_zero_iff
theorem take_snoc {α : Type} (l : List α) (d : α) (k : Nat) (h : k < l.length) : l.take (k + 1) = l.take k ++ [l.getD k d] := by
  rw [List.take_succ_eq_append_getElem h]
  simp only [List.getD_eq_getElem?_getD, List.getElem?_eq_getElem h, Option.getD_some]
theorem take_all_succ (l : List (BitVec 8)) (k : Nat) (h : k < l.length) : (∀ x ∈ l.take (k + 1), x = 0) ↔ (∀ x ∈ l.take k, x = 0) ∧ l.getD k 0 = 0 := by
  rw [take_snoc l 0 k h]
  constructor
  · exact fun h => ⟨fun x hx => h x (List.mem_append_left _ hx), h _ (List.mem_append_right _ (List.mem_singleton.2 rfl))⟩
  · rintro ⟨h1, h2⟩ x hx
    rcases List.mem_append.1 hx with hx | hx
    · exact h1 x hx
    · rw [List.mem_singleton.1 hx]; exact h2
theorem take_eq_succ {α : Type} (l m : List α) (d : α) (k : Nat) (h : k < l.length) (h' : k < m.length) : l.take (k + 1) = m.take (k + 1) ↔ l.take k = m.take k ∧ l.getD k d = m.getD k d := by
  rw [take_snoc l d k h, take_snoc m d k h']
  constructor
  · intro e
    have := List.append_inj' e rfl
    exact ⟨this.1, List.singleton_inj.1 this.2⟩
  · rintro ⟨e1, e2⟩
    rw [e1, e2]
theorem wb_eq0 (x : BitVec 8) : (wb x == 0) = (x == 0) := by
  rw [Bool.eq_iff_iff]
  simp only [beq_iff_eq]
  have := @wb_inj 8 x 0
  simpa [wb] using this
attribute [local go_sem] bits_xor_u8 bits_or_u8 wb_eq0
set_option maxHeartbeats 1000000 in
theorem zero_any (l : List (BitVec 8)) (A : Option Addr) (cap : Nat) (w : World) (hR : Rd w .u8 A l) (hlen : l.length ≤ 140737488355328) :
    Calls Try.prog 70 #[.slice A l.length cap] w fun e w' => e = .returned (.bool (l.all (· == 0))) ∧ w = w' := by
  obtain ⟨len, hl⟩ : ∃ len, len = l.length := ⟨_, rfl⟩
  obtain ⟨r, hr⟩ : ∃ r, r = l.all (· == 0) := ⟨_, rfl⟩
  have HR : Hid (r = true ↔ ∀ x ∈ l, x = 0) := by rw [hr]; simp [Hid]
  rw [← hl, ← hr]
  rw [← hl] at hlen
  have HL := Lib.hid hl
  clear hl hr
  go_enter Try.func70, Try.ntmps70
  go_wp2_with fail
  go_loop [3, 8] (fun x i => ∃ k : Nat, k ≤ len ∧ i = .int .i64 k ∧ ∃ u : BitVec 8, x = .int .u8 (wb u) ∧ Hid (u = 0 ↔ ∀ y ∈ l.take k, y = 0)) (fun _ i => len - (intOf i).toNat)
  case atStart => exact ⟨0, Nat.zero_le _, rfl, 0, rfl, by simp [Hid]⟩
  case round =>
    obtain ⟨k, hk, rfl, u, rfl, hu⟩ := hrel
    by_cases hlt : k < len
    · have i1 : (k : Int) < (len : Int) := by omega
      obtain ⟨g, off, rfl, hcell⟩ := hR k (by rw [← HL.out]; exact hlt)
      have hn := Lib.hid (take_all_succ l k (by rw [← HL.out]; exact hlt))
      generalize l.getD k 0 = ck at *
      go_wp2_with fail
      go_round
      case rel => exact ⟨k + 1, by omega, by go_num, _, rfl, by show _ ↔ _; rw [hn.out, or_zero8, hu.out]⟩
      case measure => simp [intOf]; omega
    · obtain rfl : k = len := by omega
      go_wp2_with fail
      go_ret
      refine ⟨?_, rfl⟩
      have h1 := hu.out
      rw [List.take_of_length_le (by rw [HL.out]; omega), ← HR.out] at h1
      have h2 : (u == 0) = r := by rw [Bool.eq_iff_iff, beq_iff_eq]; exact h1
      rw [← h2]
      rfl
end Go.Proofs.Ytjnbgoiaocpcjaa
