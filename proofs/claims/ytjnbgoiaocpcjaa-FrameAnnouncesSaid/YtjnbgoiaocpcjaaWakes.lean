/- Does the layer do anything? The sizes of onions and replies. -/
import Derived.Test.YtjnbgoiaocpcjaaFrHdr
namespace Go.Proofs.Ytjnbgoiaocpcjaa
open Go.RowKit
set_option maxHeartbeats 1000000 in
theorem onionSize_any (h : Int) (w : World) : Calls Try.prog 12 #[.int .i64 h] w fun e w' => e = .returned (.int .i64 (if 1 ≤ h ∧ h ≤ 3 then 146 + 48 * h else 0)) ∧ w = w' := by
  by_cases h1 : h < 1
  · have e : (if 1 ≤ h ∧ h ≤ 3 then 146 + 48 * h else 0) = 0 := if_neg (by omega)
    rw [e]
    clear e
    go_enter Try.func12, Try.ntmps12
    go_wp2
    go_ret
    exact ⟨rfl, rfl⟩
  · by_cases h2 : h > 3
    · have e : (if 1 ≤ h ∧ h ≤ 3 then 146 + 48 * h else 0) = 0 := if_neg (by omega)
      rw [e]
      clear e
      go_enter Try.func12, Try.ntmps12
      go_wp2
      go_ret
      exact ⟨rfl, rfl⟩
    · have e : (if 1 ≤ h ∧ h ≤ 3 then 146 + 48 * h else 0) = 146 + 48 * h := if_pos (by omega)
      rw [e]
      clear e
      go_enter Try.func12, Try.ntmps12
      go_wp2
      go_ret
      exact ⟨rfl, rfl⟩
set_option maxHeartbeats 1000000 in
theorem replySize_any (h : Int) (w : World) : Calls Try.prog 13 #[.int .i64 h] w fun e w' => e = .returned (.int .i64 (if 1 ≤ h ∧ h ≤ 3 then 130 + 16 * h else 0)) ∧ w = w' := by
  by_cases h1 : h < 1
  · have e : (if 1 ≤ h ∧ h ≤ 3 then 130 + 16 * h else 0) = 0 := if_neg (by omega)
    rw [e]
    clear e
    go_enter Try.func13, Try.ntmps13
    go_wp2
    go_ret
    exact ⟨rfl, rfl⟩
  · by_cases h2 : h > 3
    · have e : (if 1 ≤ h ∧ h ≤ 3 then 130 + 16 * h else 0) = 0 := if_neg (by omega)
      rw [e]
      clear e
      go_enter Try.func13, Try.ntmps13
      go_wp2
      go_ret
      exact ⟨rfl, rfl⟩
    · have e : (if 1 ≤ h ∧ h ≤ 3 then 130 + 16 * h else 0) = 130 + 16 * h := if_pos (by omega)
      rw [e]
      clear e
      go_enter Try.func13, Try.ntmps13
      go_wp2
      go_ret
      exact ⟨rfl, rfl⟩
theorem getHeader_v {w : World} {v : Value} {b : List (BitVec 8)} (h : Arg w v b) (hlen : b.length ≤ 140737488355328) : Calls Try.prog 23 #[v] w (HdrGot b w) := by
  obtain ⟨A, cap, rfl, hc, hr⟩ := h
  exact getHeader_any b A cap w hr hc hlen
set_option maxHeartbeats 2000000 in
set_option maxRecDepth 100000 in
theorem wakes_any (w : World) : Calls Try.prog 11 #[] w fun e w' => e = .returned (.bool true) ∧ Below w.heap.size w w' := by
  go_enter Try.func11, Try.ntmps11
  go_wp2_with fail
  refine (putHeader_any (List.replicate 32 0) 0 258#32 (by simp) w).mono ?_
  rintro e w1 ⟨v, rfl, hv, hb⟩
  replace hv : OwnB w1 _ v (hdrB (List.replicate 32 0) 0 258#32) := hv
  obtain ⟨b, hbb⟩ : ∃ b, b = hdrB (List.replicate 32 0) 0 258#32 := ⟨_, rfl⟩
  have h40 : Hid (b.length = 40) := by show _ = _; rw [hbb]; decide +kernel
  have hH : Hid (hdrL (b.take 32) (num32 b 32) (num32 b 36) = hdrL (List.replicate 32 0) 0 258#32) := by
    show _ = _
    have e1 : b.take 32 = List.replicate 32 0 := by rw [hbb]; decide +kernel
    have e2 : num32 b 32 = 0 := by rw [hbb]; decide +kernel
    have e3 : num32 b 36 = 258#32 := by rw [hbb]; decide +kernel
    rw [e1, e2, e3]
  rw [← hbb] at hv
  clear hbb
  go_wp2_with fail
  refine (getHeader_v hv.arg (by rw [h40.out]; omega)).mono ?_
  rintro e w2 ⟨rfl, hb2⟩
  rw [if_pos h40.out, hH.out]
  replace hv := hv.below hb2
  replace hb := hb.trans (hb2.mono hb.size)
  clear hb2
  obtain ⟨A, cap, rfl, hc, _⟩ := hv.arg
  rw [h40.out]
  have HZ := Lib.hid (hdrL_length (List.replicate 32 0) 0 0 (by simp))
  have HL := Lib.hid (hdrL_length (List.replicate 32 0) 0 258#32 (by simp))
  have HO := Lib.hid (hdrL_one (List.replicate 32 0) 0 258#32)
  have c1 : ∀ W g, Blk W g (hdrL (List.replicate 32 0) 0 258#32).toArray 29 → W.cell? ⟨g, 33, none⟩ = some (.int .u32 258) := fun W g h => h.cellSeg (encL .u8 (List.replicate 32 0) ++ [.int .u32 0]) [] rfl rfl
  have C1 := Lib.hid c1
  clear c1 hv
  generalize hdrL (List.replicate 32 0) 0 258#32 = H at *
  have hc1 := C1.out (w2.alloc (.cells H.toArray 29)) w2.heap.size (Blk.new _ _ _)
  go_wp2_with (refine wpList_store_last rfl 29 _ _ rfl _ _ _ 29 rfl rfl (by simp; done) (by rw [List.size_toArray, HL.out]; exact sizeHdr) (by simp [HL.out]) HO.out ?_)
  refine (onionSize_any 1 _).mono ?_
  rintro e _ ⟨rfl, rfl⟩
  rw [if_pos (by omega)]
  go_wp2_with fail
  go_ret
  exact ⟨rfl, hb.alloc hb.size _⟩
set_option maxHeartbeats 2000000 in
theorem sizes_walk (h : Int) (w : World) : Calls Try.prog 3 #[.int .i64 h] w fun e w' => e = .returned (.bool true) ∧ Below w.heap.size w w' := by
  by_cases h1 : 1 ≤ h ∧ h ≤ 3
  · obtain ⟨h1, h2⟩ := h1
    go_enter Try.func3, Try.ntmps3
    go_wp2_with fail
    refine (wakes_any w).mono ?_
    rintro e w1 ⟨rfl, hb⟩
    go_wp2_with fail
    refine (onionSize_any h _).mono ?_
    rintro e _ ⟨rfl, rfl⟩
    rw [if_pos (by omega)]
    go_wp2_with fail
    refine (replySize_any h _).mono ?_
    rintro e _ ⟨rfl, rfl⟩
    rw [if_pos (by omega)]
    go_wp2_with fail
    go_ret
    exact ⟨rfl, hb⟩
  · have e1 : (if 1 ≤ h ∧ h ≤ 3 then 146 + 48 * h else 0) = 0 := if_neg h1
    have e2 : (if 1 ≤ h ∧ h ≤ 3 then 130 + 16 * h else 0) = 0 := if_neg h1
    have E1 := Lib.hid e1
    have E2 := Lib.hid e2
    clear e1 e2
    by_cases h0 : h < 1
    · clear h1
      go_enter Try.func3, Try.ntmps3
      go_wp2_with fail
      refine (wakes_any w).mono ?_
      rintro e w1 ⟨rfl, hb⟩
      go_wp2_with fail
      refine (onionSize_any h _).mono ?_
      rintro e _ ⟨rfl, rfl⟩
      rw [E1.out]
      go_wp2_with fail
      refine (replySize_any h _).mono ?_
      rintro e _ ⟨rfl, rfl⟩
      rw [E2.out]
      go_wp2_with fail
      go_ret
      exact ⟨rfl, hb⟩
    · have h3 : 3 < h := by omega
      have h4 : 1 ≤ h := by omega
      clear h1 h0
      go_enter Try.func3, Try.ntmps3
      go_wp2_with fail
      refine (wakes_any w).mono ?_
      rintro e w1 ⟨rfl, hb⟩
      go_wp2_with fail
      refine (onionSize_any h _).mono ?_
      rintro e _ ⟨rfl, rfl⟩
      rw [E1.out]
      go_wp2_with fail
      refine (replySize_any h _).mono ?_
      rintro e _ ⟨rfl, rfl⟩
      rw [E2.out]
      go_wp2_with fail
      go_ret
      exact ⟨rfl, hb⟩
end Go.Proofs.Ytjnbgoiaocpcjaa
