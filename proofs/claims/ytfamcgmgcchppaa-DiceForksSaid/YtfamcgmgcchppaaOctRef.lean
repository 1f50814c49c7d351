/- The reference's Low, High, Both, Same. -/
import Derived.Test.YtfamcgmgcchppaaOctXor
namespace Go.Proofs.Ytfamcgmgcchppaa
open Go.RowKit
theorem wb_neq8 (x y : BitVec 8) : (wb x != wb y) = (x != y) := by
  rw [Bool.eq_iff_iff]
  simp only [bne_iff_ne, ne_eq]
  rw [@wb_inj 8 x y]
theorem conv64_8b (x : BitVec 64) : IntKind.u8.wrap (wb x) = wb (x.setWidth 8) := conv_u8 x
theorem mod256 (x : BitVec 64) : IntKind.u8.wrap (wb x % 256) = wb (x.setWidth 8) := by
  rw [← conv_u8 x, wrap_isU isU8, wrap_isU isU8]
  show (wb x % 256) % 256 = wb x % 256
  omega
theorem div256 (x : BitVec 64) : wb x / (256 : Int) = wb (x >>> 8) := wb_shr x 8
theorem mul256 (x : BitVec 64) : IntKind.u64.wrap (wb x * 256) = wb (x <<< 8) := shl_u64 x 8
theorem low_getD (x : BitVec 64) (n k : Nat) (h : k < n) : (low x n).getD k 0 = (x >>> (8 * k)).setWidth 8 := by
  induction n with
  | zero => omega
  | succ n ih =>
    rw [low_succ, List.getD_eq_getElem?_getD]
    by_cases hk : k < n
    · rw [List.getElem?_append_left (by rw [low_length]; exact hk), ← List.getD_eq_getElem?_getD, ih hk]
    · obtain rfl : k = n := by omega
      rw [List.getElem?_append_right (by rw [low_length]; exact Nat.le_refl _), low_length]
      simp
attribute [local go_sem] wb_neq8
set_option maxHeartbeats 1000000 in
theorem same_any (l m : List (BitVec 8)) (A B : Option Addr) (cap cap' : Nat) (w : World) (hR : Rd w .u8 A l) (hM : Rd w .u8 B m) (hlen : l.length ≤ 140737488355328) :
    Calls Try.prog 18 #[.slice A l.length cap, .slice B m.length cap'] w fun e w' => e = .returned (.bool (l == m)) ∧ ∃ n, w' = w.drewN n := by
  obtain ⟨len, hl⟩ : ∃ len, len = l.length := ⟨_, rfl⟩
  obtain ⟨lem, hm⟩ : ∃ lem, lem = m.length := ⟨_, rfl⟩
  obtain ⟨r, hr⟩ : ∃ r, r = (l == m) := ⟨_, rfl⟩
  rw [← hl] at hlen
  rw [← hl, ← hm, ← hr]
  have HR : Hid (r = true ↔ l = m) := by rw [hr]; simp [Hid]
  have HL := Lib.hid hl
  have HM := Lib.hid hm
  by_cases hne : len = lem
  · subst hne
    clear hl hm hr
    have e0 : ((len : Int) != (len : Int)) = false := by simp
    go_enter Try.func18, Try.ntmps18
    go_wp2_with fail
    go_loopw [5] (fun i wr => ∃ k : Nat, k ≤ len ∧ i = .int .i64 k ∧ Hid (l.take k = m.take k) ∧ ∃ n, wr = w.drewN n) (fun i _ => len - (intOf i).toNat)
    case atStart => exact ⟨0, Nat.zero_le _, rfl, by simp [Hid], 0, rfl⟩
    case round =>
      obtain ⟨k, hk, rfl, hu, n, rfl⟩ := hrel
      by_cases hlt : k < len
      · have i1 : (k : Int) < (len : Int) := by omega
        obtain ⟨g, off, rfl, hcell⟩ := hR k (by rw [← HL.out]; exact hlt)
        obtain ⟨g', off', rfl, hcell'⟩ := hM k (by rw [← HM.out]; exact hlt)
        have hn := Lib.hid (take_eq_succ l m 0 k (by rw [← HL.out]; exact hlt) (by rw [← HM.out]; exact hlt))
        generalize l.getD k 0 = ck at *
        generalize m.getD k 0 = dk at *
        by_cases hcd : ck = dk
        · subst hcd
          have e1 : (ck != ck) = false := by simp
          go_wp2_with fail
          go_quiet (fail)
          go_wp2_with fail
          go_roundw
          case rel => exact ⟨k + 1, by omega, by go_num, by show _ = _; rw [hn.out]; exact ⟨hu.out, by trivial⟩, _, by first | rfl | exact World.drewN_drewN _ _ _⟩
          case measure => simp [intOf]; omega
        · have e1 : (ck != dk) = true := by simpa using hcd
          have hrf : r = false := by
            rw [Bool.eq_false_iff]
            intro h
            rw [HR.out] at h
            have h2 := congrArg (List.take (k + 1)) h
            rw [hn.out] at h2
            exact hcd h2.2
          subst hrf
          go_wp2_with fail
          go_quiet (fail)
          go_wp2_with fail
          go_ret
          exact ⟨rfl, _, World.drewN_drewN _ _ _⟩
      · obtain rfl : k = len := by omega
        have hrt : r = true := by
          rw [HR.out]
          have h1 := hu.out
          rwa [List.take_of_length_le (by rw [HL.out]; omega), List.take_of_length_le (by rw [HM.out]; omega)] at h1
        subst hrt
        go_wp2_with fail
        go_ret
        exact ⟨rfl, _, rfl⟩
  · have hrf : r = false := by
      rw [Bool.eq_false_iff]
      intro h
      rw [HR.out] at h
      exact hne (by rw [hl, hm, h])
    subst hrf
    clear hl hm hr
    have e0 : ((len : Int) != (lem : Int)) = true := by simp; omega
    go_enter Try.func18, Try.ntmps18
    go_wp2_with fail
    go_ret
    exact ⟨rfl, 0, rfl⟩
theorem quo256 (x : BitVec 64) : IntKind.u64.wrap ((wb x).tdiv 256) = wb (x >>> 8) := by
  rw [Int.tdiv_eq_ediv_of_nonneg (wb_nonneg x)]
  have h : wb x / (256 : Int) = wb (x >>> 8) := wb_shr x 8
  rw [h, conv_u64, BitVec.setWidth_eq]
theorem rem256 (x : BitVec 64) : (wb x).tmod 256 % 256 = wb (x.setWidth 8) := by
  rw [Int.tmod_eq_emod_of_nonneg (wb_nonneg x), ← mod256 x, wrap_isU isU8]
  rfl
attribute [local go_sem] quo256 rem256
theorem conv8_64b (x : BitVec 8) : IntKind.u64.wrap (wb x) = wb (x.setWidth 64) := conv_u64 x
attribute [local go_sem] mul256 conv8_64b add_u64
theorem add_or8 (y : BitVec 64) (c : BitVec 8) : y <<< 8 + c.setWidth 64 = c.setWidth 64 ||| y <<< 8 := by
  rw [BitVec.or_comm]
  apply BitVec.add_eq_or_of_and_eq_zero
  apply BitVec.eq_of_getLsbD_eq
  intro i hi
  simp only [BitVec.getLsbD_and, BitVec.getLsbD_shiftLeft, BitVec.getLsbD_setWidth, BitVec.getLsbD_zero]
  by_cases h8 : i < 8
  · simp [h8]
  · simp [h8, BitVec.getLsbD_of_ge c i (by omega)]
/-- The number that High has when it is at place k. -/
def high (l : List (BitVec 8)) (k : Nat) : BitVec 64 := num ((l.take 8).drop k)
theorem num_drop (l : List (BitVec 8)) (k : Nat) (h : k < l.length) : num (l.drop k) = (num (l.drop (k + 1))) <<< 8 + (l.getD k 0).setWidth 64 := by
  rw [add_or8, List.drop_eq_getElem_cons h, num]
  simp [List.getD, h]
theorem high_lt (l : List (BitVec 8)) (k : Nat) (h : k < l.length) (h8 : k < 8) : high l k = (high l (k + 1)) <<< 8 + (l.getD k 0).setWidth 64 := by
  unfold high
  rw [num_drop (l.take 8) k (by rw [List.length_take]; omega)]
  simp [List.getD, h8]
theorem high_ge (l : List (BitVec 8)) (k : Nat) (h : l.length ≤ k) : high l k = 0 := by
  unfold high
  rw [List.drop_of_length_le (by rw [List.length_take]; omega)]
  rfl
set_option maxHeartbeats 1000000 in
theorem rhigh_any (l : List (BitVec 8)) (A : Option Addr) (cap : Nat) (w : World) (hR : Rd w .u8 A l) (hlen : l.length ≤ 140737488355328) :
    Calls Try.prog 30 #[.slice A l.length cap] w fun e w' => e = .returned (.int .u64 (wb (get64 l))) ∧ w = w' := by
  have HG : Hid (get64 l = high l 0) := rfl
  rw [HG.out]
  clear HG
  have HLt := Lib.hid (high_lt l)
  have HGe := Lib.hid (high_ge l)
  have H8 : Hid (high l 8 = 0) := by unfold high; rw [List.drop_of_length_le (by rw [List.length_take]; omega)]; rfl
  obtain ⟨len, hl⟩ : ∃ len, len = l.length := ⟨_, rfl⟩
  rw [← hl] at hlen HLt HGe ⊢
  have HL := Lib.hid hl
  clear hl
  go_enter Try.func30, Try.ntmps30
  go_wp2_with fail
  go_loop [3, 4] (fun x i => ∃ k : Nat, k ≤ 8 ∧ i = .int .i64 ((k : Int) - 1) ∧ x = .int .u64 (wb (high l k))) (fun _ i => (intOf i + 1).toNat)
  case atStart => exact ⟨8, by omega, rfl, by rw [H8.out]; rfl⟩
  case round =>
    obtain ⟨k', hk, rfl, rfl⟩ := hrel
    by_cases hlt : 1 ≤ k'
    · obtain ⟨k, rfl⟩ : ∃ k, k' = k + 1 := ⟨k' - 1, by omega⟩
      have e1 : ((k + 1 : Nat) : Int) - 1 = (k : Int) := by omega
      rw [e1]
      clear e1
      have i0 : (k : Int) ≤ 7 := by omega
      by_cases hll : k < len
      · have i1 : (k : Int) < (len : Int) := by omega
        obtain ⟨g, off, rfl, hcell⟩ := hR k (by rw [← HL.out]; exact hll)
        have hx := Lib.hid (HLt.out k hll (by omega))
        generalize l.getD k 0 = ck at *
        generalize high l (k + 1) = hk1 at *
        go_wp2_with fail
        go_round
        case rel => exact ⟨k, by omega, rfl, by rw [hx.out]⟩
        case measure => simp [intOf]
      · have i1 : (len : Int) ≤ (k : Int) := by omega
        have hx := Lib.hid (HGe.out k (by omega))
        have hx1 := Lib.hid (HGe.out (k + 1) (by omega))
        rw [hx1.out]
        go_wp2_with fail
        go_round
        case rel => exact ⟨k, by omega, rfl, by rw [hx.out]; rfl⟩
        case measure => simp [intOf]
    · obtain rfl : k' = 0 := by omega
      go_wp2_with fail
      go_ret
      exact ⟨rfl, rfl⟩
end Go.Proofs.Ytfamcgmgcchppaa
