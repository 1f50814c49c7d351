/- The reference's Low, High, Both, Same. -/
import Derived.Test.YtgcdjickkbiglaaOctXor
namespace Go.Proofs.Ytgcdjickkbiglaa
open Go.RowKit
theorem wb_neq8 (x y : BitVec 8) : (wb x != wb y) = (x != y) := by
  rw [Bool.eq_iff_iff]
  simp only [bne_iff_ne, ne_eq]
  rw [@wb_inj 8 x y]
theorem conv64_8b (x : BitVec 64) : IntKind.u8.wrap (wb x) = wb (x.setWidth 8) := conv_u8 x
theorem mod256 (x : BitVec 64) : IntKind.u8.wrap (wb x % 256) = wb (x.setWidth 8) := by
  rw [← conv_u8 x, wrap_isU isU8, wrap_isU isU8]
  show (wb x % 256) % 256 = wb x % 256
  omega
theorem div256 (x : BitVec 64) : wb x / (256 : Int) = wb (x >>> 8) := wb_shr x 8
theorem mul256 (x : BitVec 64) : IntKind.u64.wrap (wb x * 256) = wb (x <<< 8) := shl_u64 x 8
theorem low_getD (x : BitVec 64) (n k : Nat) (h : k < n) : (low x n).getD k 0 = (x >>> (8 * k)).setWidth 8 := by
  induction n with
  | zero => omega
  | succ n ih =>
    rw [low_succ, List.getD_eq_getElem?_getD]
    by_cases hk : k < n
    · rw [List.getElem?_append_left (by rw [low_length]; exact hk), ← List.getD_eq_getElem?_getD, ih hk]
    · obtain rfl : k = n := by omega
      rw [List.getElem?_append_right (by rw [low_length]; exact Nat.le_refl _), low_length]
      simp
attribute [local go_sem] wb_neq8
set_option maxHeartbeats 1000000 in
theorem same_any (l m : List (BitVec 8)) (A B : Option Addr) (cap cap' : Nat) (w : World) (hR : Rd w .u8 A l) (hM : Rd w .u8 B m) (hlen : l.length ≤ 140737488355328) :
    Calls Try.prog 17 #[.slice A l.length cap, .slice B m.length cap'] w fun e w' => e = .returned (.bool (l == m)) ∧ ∃ n, w' = w.drewN n := by
  obtain ⟨len, hl⟩ : ∃ len, len = l.length := ⟨_, rfl⟩
  obtain ⟨lem, hm⟩ : ∃ lem, lem = m.length := ⟨_, rfl⟩
  obtain ⟨r, hr⟩ : ∃ r, r = (l == m) := ⟨_, rfl⟩
  rw [← hl] at hlen
  rw [← hl, ← hm, ← hr]
  have HR : Hid (r = true ↔ l = m) := by rw [hr]; simp [Hid]
  have HL := Lib.hid hl
  have HM := Lib.hid hm
  by_cases hne : len = lem
  · subst hne
    clear hl hm hr
    have e0 : ((len : Int) != (len : Int)) = false := by simp
    go_enter Try.func17, Try.ntmps17
    go_wp2_with fail
    go_loopw [5] (fun i wr => ∃ k : Nat, k ≤ len ∧ i = .int .i64 k ∧ Hid (l.take k = m.take k) ∧ ∃ n, wr = w.drewN n) (fun i _ => len - (intOf i).toNat)
    case atStart => exact ⟨0, Nat.zero_le _, rfl, by simp [Hid], 0, rfl⟩
    case round =>
      obtain ⟨k, hk, rfl, hu, n, rfl⟩ := hrel
      by_cases hlt : k < len
      · have i1 : (k : Int) < (len : Int) := by omega
        obtain ⟨g, off, rfl, hcell⟩ := hR k (by rw [← HL.out]; exact hlt)
        obtain ⟨g', off', rfl, hcell'⟩ := hM k (by rw [← HM.out]; exact hlt)
        have hn := Lib.hid (take_eq_succ l m 0 k (by rw [← HL.out]; exact hlt) (by rw [← HM.out]; exact hlt))
        generalize l.getD k 0 = ck at *
        generalize m.getD k 0 = dk at *
        by_cases hcd : ck = dk
        · subst hcd
          have e1 : (ck != ck) = false := by simp
          go_wp2_with fail
          go_quiet (fail)
          go_wp2_with fail
          go_roundw
          case rel => exact ⟨k + 1, by omega, by go_num, by show _ = _; rw [hn.out]; exact ⟨hu.out, by trivial⟩, _, by first | rfl | exact World.drewN_drewN _ _ _⟩
          case measure => simp [intOf]; omega
        · have e1 : (ck != dk) = true := by simpa using hcd
          have hrf : r = false := by
            rw [Bool.eq_false_iff]
            intro h
            rw [HR.out] at h
            have h2 := congrArg (List.take (k + 1)) h
            rw [hn.out] at h2
            exact hcd h2.2
          subst hrf
          go_wp2_with fail
          go_quiet (fail)
          go_wp2_with fail
          go_ret
          exact ⟨rfl, _, World.drewN_drewN _ _ _⟩
      · obtain rfl : k = len := by omega
        have hrt : r = true := by
          rw [HR.out]
          have h1 := hu.out
          rwa [List.take_of_length_le (by rw [HL.out]; omega), List.take_of_length_le (by rw [HM.out]; omega)] at h1
        subst hrt
        go_wp2_with fail
        go_ret
        exact ⟨rfl, _, rfl⟩
  · have hrf : r = false := by
      rw [Bool.eq_false_iff]
      intro h
      rw [HR.out] at h
      exact hne (by rw [hl, hm, h])
    subst hrf
    clear hl hm hr
    have e0 : ((len : Int) != (lem : Int)) = true := by simp; omega
    go_enter Try.func17, Try.ntmps17
    go_wp2_with fail
    go_ret
    exact ⟨rfl, 0, rfl⟩
theorem quo256 (x : BitVec 64) : IntKind.u64.wrap ((wb x).tdiv 256) = wb (x >>> 8) := by
  rw [Int.tdiv_eq_ediv_of_nonneg (wb_nonneg x)]
  have h : wb x / (256 : Int) = wb (x >>> 8) := wb_shr x 8
  rw [h, conv_u64, BitVec.setWidth_eq]
theorem rem256 (x : BitVec 64) : (wb x).tmod 256 % 256 = wb (x.setWidth 8) := by
  rw [Int.tmod_eq_emod_of_nonneg (wb_nonneg x), ← mod256 x, wrap_isU isU8]
  rfl
attribute [local go_sem] quo256 rem256
set_option maxHeartbeats 1000000 in
theorem rlow_any (x : BitVec 64) (n : Nat) (w : World) (hn : n ≤ 100) :
    Calls Try.prog 45 #[.int .u64 (wb x), .int .i64 n] w (RetOwn w 5 .u8 (low x n)) := by
  obtain ⟨l, hl⟩ : ∃ l, l = low x n := ⟨_, rfl⟩
  have HL : Hid (l.length = n) := by rw [hl]; exact low_length x n
  have HG : Hid (∀ k, k < n → l.getD k 0 = (x >>> (8 * k)).setWidth 8) := fun k hk => by rw [hl]; exact low_getD x n k hk
  rw [← hl]
  clear hl
  have hmk := fun wx => run_make_words (P := Try.prog) 22 5 .u8 8 1 Try.underlying22 bytesT.hi n (by omega) (by omega) wx
  go_enter Try.func45, Try.ntmps45
  go_wp2_with fail
  clear hmk
  go_loopw [0, 6] (fun x' i wr => ∃ k : Nat, k ≤ n ∧ i = .int .i64 k ∧ x' = .int .u64 (wb (x >>> (8 * k))) ∧ Blk wr w.heap.size (encs .u8 (fill l k)) 5 ∧ Below w.heap.size w wr) (fun _ i _ => n - (intOf i).toNat)
  case atStart => exact ⟨0, Nat.zero_le _, rfl, by simp, by rw [fill_zero, HL.out]; exact Blk.new _ _ _, (Below.refl _ _).alloc (Nat.le_refl _) _⟩
  case round =>
    obtain ⟨k, hk, rfl, rfl, hB, hb⟩ := hrel
    by_cases hlt : k < n
    · have i1 : (k : Int) < (n : Int) := by omega
      have HS := Lib.hid (fill_set l k (by rw [HL.out]; exact hlt))
      rw [HG.out k hlt] at HS
      have hq := hB.put k ((x >>> (8 * k)).setWidth 8)
      rw [HS.out] at hq
      have hq2 := below_setCell hb (Nat.le_refl _) k (.int .u8 (wb ((x >>> (8 * k)).setWidth 8)))
      have HQ := Lib.hid hq
      have HQ2 := Lib.hid hq2
      have ht := hB.word k (by rw [fill_length _ _ (by rw [HL.out]; omega), HL.out]; exact hlt)
      have hf := hB.frozen k
      have hsh := Lib.hid (shr_add x (8 * k) 8)
      clear hq hq2
      go_wp2_with fail
      go_roundw
      case rel =>
        first | exact ⟨k + 1, by omega, by go_num, by rw [hsh.out]; rfl, HQ.out, HQ2.out⟩ | ((repeat apply Exists.intro); exact ⟨⟨k + 1, by omega, by go_num, by rw [hsh.out]; rfl, HQ.out, HQ2.out⟩, rfl⟩)
      case measure => simp [intOf]; omega
    · obtain rfl : k = n := by omega
      go_wp2_with fail
      go_ret
      rw [← HL.out, fill_all] at hB
      exact ⟨_, rfl, by rw [HL.out]; exact blk_owns hB (Nat.le_refl _) HL.out (by unfold maxLen; omega), hb⟩
theorem conv8_64b (x : BitVec 8) : IntKind.u64.wrap (wb x) = wb (x.setWidth 64) := conv_u64 x
attribute [local go_sem] mul256 conv8_64b add_u64
theorem add_or8 (y : BitVec 64) (c : BitVec 8) : y <<< 8 + c.setWidth 64 = c.setWidth 64 ||| y <<< 8 := by
  rw [BitVec.or_comm]
  apply BitVec.add_eq_or_of_and_eq_zero
  apply BitVec.eq_of_getLsbD_eq
  intro i hi
  simp only [BitVec.getLsbD_and, BitVec.getLsbD_shiftLeft, BitVec.getLsbD_setWidth, BitVec.getLsbD_zero]
  by_cases h8 : i < 8
  · simp [h8]
  · simp [h8, BitVec.getLsbD_of_ge c i (by omega)]
/-- The number that High has when it is at place k. -/
def high (l : List (BitVec 8)) (k : Nat) : BitVec 64 := num ((l.take 8).drop k)
theorem num_drop (l : List (BitVec 8)) (k : Nat) (h : k < l.length) : num (l.drop k) = (num (l.drop (k + 1))) <<< 8 + (l.getD k 0).setWidth 64 := by
  rw [add_or8, List.drop_eq_getElem_cons h, num]
  simp [List.getD, h]
theorem high_lt (l : List (BitVec 8)) (k : Nat) (h : k < l.length) (h8 : k < 8) : high l k = (high l (k + 1)) <<< 8 + (l.getD k 0).setWidth 64 := by
  unfold high
  rw [num_drop (l.take 8) k (by rw [List.length_take]; omega)]
  simp [List.getD, h8]
theorem high_ge (l : List (BitVec 8)) (k : Nat) (h : l.length ≤ k) : high l k = 0 := by
  unfold high
  rw [List.drop_of_length_le (by rw [List.length_take]; omega)]
  rfl
end Go.Proofs.Ytgcdjickkbiglaa
