/- frame.may, the reference's zero and RightEnvelope. -/
import Derived.Test.YtjnbgoiaocpcjaaEnvP
namespace Go.Proofs.Ytjnbgoiaocpcjaa
open Go.RowKit
theorem wb_zero32 (s : BitVec 32) : (wb s == (0 : Int)) = (s == 0) := by
  rw [Bool.eq_iff_iff, beq_iff_eq, beq_iff_eq]
  constructor
  · intro h
    exact wb_inj.1 (h.trans rfl)
  · rintro rfl
    rfl
set_option maxRecDepth 100000 in
set_option maxHeartbeats 2000000 in
theorem may_any (kd : Int) (a s : BitVec 32) (body : List (BitVec 8)) (hb : body.length = 105) (w : World) :
    Calls Try.prog 63 #[.agg (envL kd a s body).toArray] w fun e w' => e = .returned (.bool (mayE kd s body)) ∧ Below w.heap.size w w' := by
  have HB := Lib.hid hb
  clear hb
  have hb0 : Below w.heap.size w (w.alloc (.cells (envL kd a s body).toArray 68)) := (Below.refl _ _).alloc (Nat.le_refl _) _
  have hB := Blk.new w (envL kd a s body).toArray 68
  have c0 : (w.alloc (.cells (envL kd a s body).toArray 68)).cell? ⟨w.heap.size, 0, none⟩ = some (.int .i64 kd) := hB.cellSeg [] _ rfl rfl
  have c2 : (w.alloc (.cells (envL kd a s body).toArray 68)).cell? ⟨w.heap.size, 2, none⟩ = some (.int .u32 (wb s)) := hB.cellSeg [.int .i64 kd, .int .u32 (wb a)] (encL .u8 body) rfl rfl
  have r3 : Rd (w.alloc (.cells (envL kd a s body).toArray 68)) .u8 (some ⟨w.heap.size, 3, none⟩) body := hB.rdSeg [.int .i64 kd, .int .u32 (wb a), .int .u32 (wb s)] [] (by simp [envL]) rfl
  have R3 := Lib.hid r3
  clear r3 hB
  have hs0 := wb_zero32 s
  by_cases h1 : kd = 1
  · subst h1
    have hm : mayE 1 s body = true := rfl
    rw [hm]
    go_enter Try.func63, Try.ntmps63
    go_wp2_with fail
    go_ret
    exact ⟨rfl, hb0⟩
  · have e1 : (kd == 1) = false := by simpa using h1
    by_cases h0 : kd = 0
    · subst h0
      by_cases hs : s = 0
      · have e2 : (s == 0) = true := by simpa using hs
        have hm : mayE 0 s body = body.all (· == 0) := by unfold mayE; rw [e2]; rfl
        rw [hm]
        rw [e2] at hs0
        clear hs e2
        go_enter Try.func63, Try.ntmps63
        go_wp2_with fail
        refine (zero_v (arg_of R3.out HB.out (Nat.le_refl 105)) (by rw [HB.out]; omega)).mono ?_
        rintro e w' ⟨rfl, rfl⟩
        go_wp2_with fail
        go_ret
        exact ⟨rfl, hb0⟩
      · have e2 : (s == 0) = false := by simpa using hs
        have hm : mayE 0 s body = false := by unfold mayE; rw [e2]; rfl
        rw [hm]
        rw [e2] at hs0
        go_enter Try.func63, Try.ntmps63
        go_wp2_with fail
        go_ret
        exact ⟨rfl, hb0⟩
    · have e2 : (kd == 0) = false := by simpa using h0
      have hm : mayE kd s body = false := by unfold mayE; rw [e1, e2]; rfl
      rw [hm]
      go_enter Try.func63, Try.ntmps63
      go_wp2_with fail
      go_ret
      exact ⟨rfl, hb0⟩
theorem all_take_succ (l : List (BitVec 8)) (k : Nat) (h : k < l.length) : (l.take (k + 1)).all (· == 0) = ((l.take k).all (· == 0) && l.getD k 0 == 0) := by
  rw [List.take_succ_eq_append_getElem h, List.all_append]
  simp [List.getD, h]
theorem wb_neq0 (x : BitVec 8) : (wb x != (0 : Int)) = (x != 0) := by
  have : (wb x == (0 : Int)) = (x == 0) := by
    rw [Bool.eq_iff_iff, beq_iff_eq, beq_iff_eq]
    exact ⟨fun h => wb_inj.1 (h.trans rfl), by rintro rfl; rfl⟩
  simp only [bne, this]
set_option maxHeartbeats 1000000 in
theorem rzero_any (l : List (BitVec 8)) (A : Option Addr) (cap : Nat) (w : World) (hR : Rd w .u8 A l) (hlen : l.length ≤ 140737488355328) :
    Calls Try.prog 64 #[.slice A l.length cap] w fun e w' => e = .returned (.bool (l.all (· == 0))) ∧ w = w' := by
  obtain ⟨len, hl⟩ : ∃ len, len = l.length := ⟨_, rfl⟩
  have HS := Lib.hid (all_take_succ l)
  have HE : Hid ((l.take l.length).all (· == 0) = l.all (· == 0)) := by show _ = _; rw [List.take_length]
  have HF : Hid (∀ k, k < l.length → l.getD k 0 ≠ 0 → l.all (· == 0) = false) := fun k hk hne => by
    rw [Bool.eq_false_iff]
    intro h
    rw [List.all_eq_true] at h
    have := h (l.getD k 0) (by simp [List.getD, hk])
    exact hne (by simpa using this)
  generalize l.all (· == 0) = r at *
  rw [← hl] at hlen HS HE HF ⊢
  have HL := Lib.hid hl
  clear hl
  go_enter Try.func64, Try.ntmps64
  go_wp2_with fail
  go_loop [7] (fun i => ∃ k : Nat, k ≤ len ∧ i = .int .i64 k ∧ Hid ((l.take k).all (· == 0) = true)) (fun i => len - (intOf i).toNat)
  case atStart => exact ⟨0, Nat.zero_le _, rfl, rfl⟩
  case round =>
    obtain ⟨k, hk, rfl, hu⟩ := hrel
    by_cases hlt : k < len
    · have i1 : (k : Int) < (len : Int) := by omega
      obtain ⟨g, off, rfl, hcell⟩ := hR k (by rw [← HL.out]; exact hlt)
      have hn := Lib.hid (HS.out k hlt)
      have hf := Lib.hid (HF.out k hlt)
      generalize l.getD k 0 = ck at *
      have hz := wb_neq0 ck
      by_cases hc : ck = 0
      · subst hc
        rw [show ((0 : BitVec 8) != 0) = false from rfl] at hz
        go_wp2_with fail
        go_round
        case rel => exact ⟨k + 1, by omega, by go_num, by show _ = _; rw [hn.out, hu.out]; rfl⟩
        case measure => simp [intOf]; omega
      · rw [show (ck != 0) = true by simpa using hc] at hz
        have hr : Hid (r = false) := hf.out hc
        go_wp2_with fail
        go_ret
        exact ⟨by rw [hr.out]; rfl, rfl⟩
    · obtain rfl : k = len := by omega
      have hr : Hid (r = true) := by show _ = _; rw [← HE.out]; exact hu.out
      go_wp2_with fail
      go_ret
      exact ⟨by rw [hr.out]; rfl, rfl⟩
theorem rzero_v {w : World} {v : Value} {l : List (BitVec 8)} (h : Arg w v l) (hlen : l.length ≤ 140737488355328) : Calls Try.prog 64 #[v] w fun e w' => e = .returned (.bool (l.all (· == 0))) ∧ w = w' := by
  obtain ⟨A, cap, rfl, hc, hr⟩ := h
  exact rzero_any l A cap w hr hlen
set_option maxRecDepth 100000 in
set_option maxHeartbeats 2000000 in
theorem rRightEnv_any (kd : Int) (a s : BitVec 32) (body : List (BitVec 8)) (hb : body.length = 105) (w : World) :
    Calls Try.prog 36 #[.agg (envL kd a s body).toArray] w fun e w' => e = .returned (.bool (mayE kd s body)) ∧ Below w.heap.size w w' := by
  have HB := Lib.hid hb
  clear hb
  have hb0 : Below w.heap.size w (w.alloc (.cells (envL kd a s body).toArray 68)) := (Below.refl _ _).alloc (Nat.le_refl _) _
  have hB := Blk.new w (envL kd a s body).toArray 68
  have c0 : (w.alloc (.cells (envL kd a s body).toArray 68)).cell? ⟨w.heap.size, 0, none⟩ = some (.int .i64 kd) := hB.cellSeg [] _ rfl rfl
  have c2 : (w.alloc (.cells (envL kd a s body).toArray 68)).cell? ⟨w.heap.size, 2, none⟩ = some (.int .u32 (wb s)) := hB.cellSeg [.int .i64 kd, .int .u32 (wb a)] (encL .u8 body) rfl rfl
  have r3 : Rd (w.alloc (.cells (envL kd a s body).toArray 68)) .u8 (some ⟨w.heap.size, 3, none⟩) body := hB.rdSeg [.int .i64 kd, .int .u32 (wb a), .int .u32 (wb s)] [] (by simp [envL]) rfl
  have R3 := Lib.hid r3
  clear r3 hB
  have hs0 := wb_zero32 s
  by_cases h1 : kd = 1
  · subst h1
    have hm : mayE 1 s body = true := rfl
    rw [hm]
    go_enter Try.func36, Try.ntmps36
    go_wp2_with fail
    go_ret
    exact ⟨rfl, hb0⟩
  · have e1 : (kd == 1) = false := by simpa using h1
    by_cases h0 : kd = 0
    · subst h0
      by_cases hs : s = 0
      · have e2 : (s == 0) = true := by simpa using hs
        have hm : mayE 0 s body = body.all (· == 0) := by unfold mayE; rw [e2]; rfl
        rw [hm]
        rw [e2] at hs0
        clear hs e2
        go_enter Try.func36, Try.ntmps36
        go_wp2_with fail
        refine (rzero_v (arg_of R3.out HB.out (Nat.le_refl 105)) (by rw [HB.out]; omega)).mono ?_
        rintro e w' ⟨rfl, rfl⟩
        go_wp2_with fail
        go_ret
        exact ⟨rfl, hb0⟩
      · have e2 : (s == 0) = false := by simpa using hs
        have hm : mayE 0 s body = false := by unfold mayE; rw [e2]; rfl
        rw [hm]
        rw [e2] at hs0
        go_enter Try.func36, Try.ntmps36
        go_wp2_with fail
        go_ret
        exact ⟨rfl, hb0⟩
    · have e2 : (kd == 0) = false := by simpa using h0
      have hm : mayE kd s body = false := by unfold mayE; rw [e1, e2]; rfl
      rw [hm]
      go_enter Try.func36, Try.ntmps36
      go_wp2_with fail
      go_ret
      exact ⟨rfl, hb0⟩
end Go.Proofs.Ytjnbgoiaocpcjaa
