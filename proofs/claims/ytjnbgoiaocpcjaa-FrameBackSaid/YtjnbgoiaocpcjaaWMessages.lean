/- Headers, messages and exchanges are their bytes, and are read of them. -/
import Derived.Test.YtjnbgoiaocpcjaaFrRefG2
import Derived.Test.YtjnbgoiaocpcjaaRoomCut
import Derived.Test.YtjnbgoiaocpcjaaOpenFr
import Derived.Test.YtjnbgoiaocpcjaaEqFr
import Derived.Test.YtjnbgoiaocpcjaaWakes
namespace Go.Proofs.Ytjnbgoiaocpcjaa
open Go.RowKit
theorem hdrGot_out {b : List (BitVec 8)} {w w' : World} {e : Ending} (h : HdrGot b w e w') : ∃ (H : List Value) (code : Int), e = .returned (.tuple #[.agg H.toArray, .int .i64 code]) ∧ Below w.heap.size w w' ∧ H.length = 34 ∧ H.toArray.all (·.oneCell') = true ∧ (∀ w, (Op.equalIn 10000 29 (.agg H.toArray) (.agg H.toArray)).run Try.prog w = .ok true w) ∧ (b.length = 40 → code = 0 ∧ H = hdrL (b.take 32) (num32 b 32) (num32 b 36)) ∧ (b.length ≠ 40 → code = 240 ∧ H = hdrL z32 0 0) := by
  obtain ⟨rfl, hb⟩ := h
  by_cases h40 : b.length = 40
  · have hk : (b.take 32).length = 32 := by rw [List.length_take]; omega
    exact ⟨_, 0, by rw [if_pos h40], hb, hdrL_length _ _ _ hk, hdrL_one _ _ _, eq_hdr 9997 _ _ _ hk, fun _ => ⟨rfl, rfl⟩, fun h => absurd h40 h⟩
  · exact ⟨_, 240, by rw [if_neg h40]; rfl, hb, hdrL_length z32 0 0 (by simp [z32]), hdrL_one _ _ _, eq_hdr 9997 _ _ _ (by simp [z32]), fun h => absurd h h40, fun _ => ⟨rfl, rfl⟩⟩
theorem msgGot_out {b : List (BitVec 8)} {w w' : World} {e : Ending} (h : MsgGot b w e w') : ∃ (H : List Value) (code : Int), e = .returned (.tuple #[.agg H.toArray, .int .i64 code]) ∧ Below w.heap.size w w' ∧ H.length = 99 ∧ H.toArray.all (·.oneCell') = true ∧ (∀ w, (Op.equalIn 10000 32 (.agg H.toArray) (.agg H.toArray)).run Try.prog w = .ok true w) ∧ (b.length = 105 → code = 0 ∧ H = msgL (b.take 32) (num32 b 32) (num32 b 36) (b.drop 40)) ∧ (b.length ≠ 105 → code = 240 ∧ H = msg0) := by
  obtain ⟨rfl, hb⟩ := h
  by_cases h40 : b.length = 105
  · have hk : (b.take 32).length = 32 := by rw [List.length_take]; omega
    have hd : (b.drop 40).length = 65 := by rw [List.length_drop]; omega
    exact ⟨_, 0, by rw [if_pos h40], hb, msgL_length _ _ _ _ hk hd, msgL_one _ _ _ _, eq_msg 9996 _ _ _ _ hk hd, fun _ => ⟨rfl, rfl⟩, fun h => absurd h40 h⟩
  · exact ⟨msg0, 240, by rw [if_neg h40], hb, msg0_length, msgL_one _ _ _ _, eq_msg 9996 z32 z65 0 0 (by simp [z32]) (by simp [z65]), fun h => absurd h h40, fun _ => ⟨rfl, rfl⟩⟩
theorem excGot_out {b : List (BitVec 8)} {w w' : World} {e : Ending} (h : ExcGot b w e w') : ∃ (H : List Value) (code : Int), e = .returned (.tuple #[.agg H.toArray, .int .i64 code]) ∧ Below w.heap.size w w' ∧ H.length = 146 ∧ H.toArray.all (·.oneCell') = true ∧ (∀ w, (Op.equalIn 10000 37 (.agg H.toArray) (.agg H.toArray)).run Try.prog w = .ok true w) ∧ (b.length = 146 → code = 0 ∧ H = excL (b.take 16) (b.drop 16)) ∧ (b.length ≠ 146 → code = 240 ∧ H = exc0) := by
  obtain ⟨rfl, hb⟩ := h
  by_cases h40 : b.length = 146
  · have hk : (b.take 16).length = 16 := by rw [List.length_take]; omega
    have hd : (b.drop 16).length = 130 := by rw [List.length_drop]; omega
    exact ⟨_, 0, by rw [if_pos h40], hb, excL_length _ _ hk hd, excL_one _ _, eq_exc 9996 _ _ hk hd, fun _ => ⟨rfl, rfl⟩, fun h => absurd h40 h⟩
  · exact ⟨exc0, 240, by rw [if_neg h40], hb, exc0_length, excL_one _ _, eq_exc 9996 z16 z130 (by simp [z16]) (by simp [z130]), fun h => absurd h h40, fun _ => ⟨rfl, rfl⟩⟩
theorem getMessage_v {w : World} {v : Value} {b : List (BitVec 8)} (h : Arg w v b) (hlen : b.length ≤ 140737488355328) : Calls Try.prog 24 #[v] w (MsgGot b w) := by
  obtain ⟨A, cap, rfl, hc, hr⟩ := h
  exact getMessage_any b A cap w hr hc hlen
theorem getExchange_v {w : World} {v : Value} {b : List (BitVec 8)} (h : Arg w v b) (_ : b.length ≤ 140737488355328) : Calls Try.prog 25 #[v] w (ExcGot b w) := by
  obtain ⟨A, cap, rfl, hc, hr⟩ := h
  exact getExchange_any b A cap w hr hc
set_option maxRecDepth 100000 in
set_option maxHeartbeats 4000000 in
theorem messages_walk (k body : List (BitVec 8)) (p n : BitVec 32) (drop xb b : List (BitVec 8)) (A : Option Addr) (cap : Nat) (w : World) (hk : k.length = 32) (hbd : body.length = 65) (hd : drop.length = 16) (hxb : xb.length = 130) (hR : Rd w .u8 A b) (hcap : b.length ≤ cap) :
    Calls Try.prog 4 #[.agg (msgL k p n body).toArray, .agg (excL drop xb).toArray, .slice A b.length cap] w fun e w' => e = .returned (.bool true) ∧ Below w.heap.size w w' := by
  have HA : Hid (Arg w (.slice A b.length cap) b) := ⟨A, cap, rfl, hcap, hR⟩
  have HM := Lib.hid (msgL_length k body p n hk hbd)
  have HX := Lib.hid (excL_length drop xb hd hxb)
  have HHL := Lib.hid (hdrL_length k p n hk)
  have HK := Lib.hid hk
  have HBD := Lib.hid hbd
  have HD := Lib.hid hd
  have HXB := Lib.hid hxb
  clear hk hbd hd hxb hR hcap
  generalize hu : Value.slice A b.length cap = u at *
  clear hu
  go_enter Try.func4, Try.ntmps4
  go_wp2_with fail
  have hb0 : Below w.heap.size w ((w.alloc (.cells (msgL k p n body).toArray 32)).alloc (.cells (excL drop xb).toArray 37)) := ((Below.refl _ _).alloc (Nat.le_refl _) _).alloc (by simp) _
  have hBm : Blk ((w.alloc (.cells (msgL k p n body).toArray 32)).alloc (.cells (excL drop xb).toArray 37)) w.heap.size (msgL k p n body).toArray 32 := (Blk.new _ _ _).alloc _
  have hBx : Blk ((w.alloc (.cells (msgL k p n body).toArray 32)).alloc (.cells (excL drop xb).toArray 37)) (w.heap.size + 1) (excL drop xb).toArray 37 := Blk.new_at _ _ _ _ (by simp)
  generalize (w.alloc (.cells (msgL k p n body).toArray 32)).alloc (.cells (excL drop xb).toArray 37) = W0 at *
  refine (wakes_any W0).mono ?_
  rintro e w1 ⟨rfl, hb1⟩
  replace hBm := hBm.below hb1 hBm.lt
  replace hBx := hBx.below hb1 hBx.lt
  replace hb0 := hb0.trans (hb1.mono hb0.size)
  clear hb1
  go_wp2_with fail
  refine (cut_v (HA.out.below hb0)).mono ?_
  rintro e w2 ⟨u2, rfl, hA2, rfl⟩
  go_wp2_with fail
  refine mix_start (fun w' => Below w1.heap.size w1 w') [0, 1, 3, 4, 2, 5, 6, 7, 8, 9, 11, 10, 12, 13, 14, 15, 16, 17, 19, 18, 20, 21, 22, 23] [2, 5, 6, 10, 12, 13, 18, 20, 21] [1, 4, 9, 11, 17, 19] [] (by kernel_rfl) (by kernel_rfl) (fun d _ _ _ _ h => by cases d <;> exact h) (Below.refl _ _).drew ?_
  have hB : Below w1.heap.size w1 w1.drew := (Below.refl _ _).drew
  repeat (refine mix_pure rfl rfl (fun K hK => ?_); go_simp; refine hK _ ?_; clear hK K)
  refine mix_load_part rfl rfl rfl rfl 29 _ rfl w.heap.size 0 rfl 32 (msgL k p n body).toArray (0, 0) _ (hdrL k p n) (fun w' hS => hBm.below hS hBm.lt) (fun j v h => by rw [Nat.zero_add, List.getElem?_toArray, msgL, List.getElem?_append_left (List.getElem?_eq_some_iff.1 h).1]; exact h) Try.underlying29 rfl (by rw [HHL.out]; exact sizeHdr) ?_
  repeat (refine mix_pure rfl rfl (fun K hK => ?_); go_simp; refine hK _ ?_; clear hK K)
  refine mix_load_part rfl rfl rfl rfl 29 _ rfl w.heap.size 0 rfl 32 (msgL k p n body).toArray (0, 0) _ (hdrL k p n) (fun w' hS => hBm.below hS hBm.lt) (fun j v h => by rw [Nat.zero_add, List.getElem?_toArray, msgL, List.getElem?_append_left (List.getElem?_eq_some_iff.1 h).1]; exact h) Try.underlying29 rfl (by rw [HHL.out]; exact sizeHdr) ?_
  repeat (refine mix_pure rfl rfl (fun K hK => ?_); go_simp; refine hK _ ?_; clear hK K)
  refine mix_eff rfl rfl (fun K hK => ?_)
  go_simp
  refine (putHeader_any k p n HK.out _).mono ?_
  rintro e w3 ⟨v1, rfl, h1, hb3⟩
  replace h1 : OwnB w3 _ v1 (hdrB k p n) := h1
  replace hB := hB.trans (hb3.mono hB.size)
  refine hK _ _ (fun _ h => hB) ?_
  clear hK K
  repeat (refine mix_pure rfl rfl (fun K hK => ?_); go_simp; refine hK _ ?_; clear hK K)
  refine mix_eff rfl rfl (fun K hK => ?_)
  go_simp
  refine (rHeader_any k p n HK.out _).mono ?_
  rintro e w4 ⟨v2, rfl, h2, hb4⟩
  replace h2 : OwnB w4 _ v2 (hdrB k p n) := h2
  replace hB := hB.trans (hb4.mono hB.size)
  refine hK _ _ (fun _ h => hB) ?_
  clear hK K
  repeat (refine mix_pure rfl rfl (fun K hK => ?_); go_simp; refine hK _ ?_; clear hK K)
  refine mix_eff rfl rfl (fun K hK => ?_)
  go_simp
  refine (bytesEqual_v (h1.arg.below hb4) (h2.arg)).mono ?_
  rintro e w'' ⟨rfl, rfl⟩
  refine hK _ _ (fun _ h => h) ?_
  clear hK K
  simp only [beq_self_eq_true]
  repeat (refine mix_pure rfl rfl (fun K hK => ?_); go_simp; refine hK _ ?_; clear hK K)
  refine mix_load_row rfl rfl rfl rfl 32 _ rfl w.heap.size rfl _ 32 (0, 0) _ (fun w' hS => hBm.below hS hBm.lt) Try.underlying32 rfl (by rw [List.size_toArray, HM.out]; exact sizeMsg) ?_
  repeat (refine mix_pure rfl rfl (fun K hK => ?_); go_simp; refine hK _ ?_; clear hK K)
  refine mix_load_row rfl rfl rfl rfl 32 _ rfl w.heap.size rfl _ 32 (0, 0) _ (fun w' hS => hBm.below hS hBm.lt) Try.underlying32 rfl (by rw [List.size_toArray, HM.out]; exact sizeMsg) ?_
  repeat (refine mix_pure rfl rfl (fun K hK => ?_); go_simp; refine hK _ ?_; clear hK K)
  refine mix_eff rfl rfl (fun K hK => ?_)
  go_simp
  refine (putMessage_any k body p n HK.out HBD.out _).mono ?_
  rintro e w5 ⟨v3, rfl, h3, hb5⟩
  replace h3 : OwnB w5 _ v3 (hdrB k p n ++ body) := h3
  replace hB := hB.trans (hb5.mono hB.size)
  refine hK _ _ (fun _ h => hB) ?_
  clear hK K
  repeat (refine mix_pure rfl rfl (fun K hK => ?_); go_simp; refine hK _ ?_; clear hK K)
  refine mix_eff rfl rfl (fun K hK => ?_)
  go_simp
  refine (rMessage_any k body p n HK.out HBD.out _).mono ?_
  rintro e w6 ⟨v4, rfl, h4, hb6⟩
  replace h4 : OwnB w6 _ v4 (hdrB k p n ++ body) := h4
  replace hB := hB.trans (hb6.mono hB.size)
  refine hK _ _ (fun _ h => hB) ?_
  clear hK K
  repeat (refine mix_pure rfl rfl (fun K hK => ?_); go_simp; refine hK _ ?_; clear hK K)
  refine mix_eff rfl rfl (fun K hK => ?_)
  go_simp
  refine (bytesEqual_v (h3.arg.below hb6) (h4.arg)).mono ?_
  rintro e w'' ⟨rfl, rfl⟩
  refine hK _ _ (fun _ h => h) ?_
  clear hK K
  simp only [beq_self_eq_true]
  repeat (refine mix_pure rfl rfl (fun K hK => ?_); go_simp; refine hK _ ?_; clear hK K)
  refine mix_load_row rfl rfl rfl rfl 37 _ rfl (w.heap.size + 1) rfl _ 37 (0, 0) _ (fun w' hS => hBx.below hS hBx.lt) Try.underlying37 rfl (by rw [List.size_toArray, HX.out]; exact sizeExc) ?_
  repeat (refine mix_pure rfl rfl (fun K hK => ?_); go_simp; refine hK _ ?_; clear hK K)
  refine mix_load_row rfl rfl rfl rfl 37 _ rfl (w.heap.size + 1) rfl _ 37 (0, 0) _ (fun w' hS => hBx.below hS hBx.lt) Try.underlying37 rfl (by rw [List.size_toArray, HX.out]; exact sizeExc) ?_
  repeat (refine mix_pure rfl rfl (fun K hK => ?_); go_simp; refine hK _ ?_; clear hK K)
  refine mix_eff rfl rfl (fun K hK => ?_)
  go_simp
  refine (putExchange_any drop xb HD.out HXB.out _).mono ?_
  rintro e w7 ⟨v5, rfl, h5, hb7⟩
  replace h5 : OwnB w7 _ v5 (drop ++ xb) := h5
  replace hB := hB.trans (hb7.mono hB.size)
  refine hK _ _ (fun _ h => hB) ?_
  clear hK K
  repeat (refine mix_pure rfl rfl (fun K hK => ?_); go_simp; refine hK _ ?_; clear hK K)
  refine mix_eff rfl rfl (fun K hK => ?_)
  go_simp
  refine (rExchange_any drop xb HD.out HXB.out _).mono ?_
  rintro e w8 ⟨v6, rfl, h6, hb8⟩
  replace h6 : OwnB w8 _ v6 (drop ++ xb) := h6
  replace hB := hB.trans (hb8.mono hB.size)
  refine hK _ _ (fun _ h => hB) ?_
  clear hK K
  repeat (refine mix_pure rfl rfl (fun K hK => ?_); go_simp; refine hK _ ?_; clear hK K)
  refine mix_eff rfl rfl (fun K hK => ?_)
  go_simp
  refine (bytesEqual_v (h5.arg.below hb8) (h6.arg)).mono ?_
  rintro e w'' ⟨rfl, rfl⟩
  refine hK _ _ (fun _ h => h) ?_
  clear hK K
  simp only [beq_self_eq_true]
  repeat (refine mix_pure rfl rfl (fun K hK => ?_); go_simp; refine hK _ ?_; clear hK K)
  refine mix_nil ?_
  have hcl : (b.take 1000).length ≤ 1000 := by rw [List.length_take]; omega
  generalize b.take 1000 = c at *
  clear h1 h2 h3 h4 h5 h6 hBm hBx hb3 hb4 hb5 hb6 hb7 hb8
  obtain ⟨A2, c2, rfl, hc2, hr2⟩ := id hA2
  generalize hm : c.length = m at *
  have hm' := Lib.hid hm
  clear hm
  go_wp2_with fail
  refine (room_v (hA2.below hB) (by rw [hm'.out]; exact hcl)).mono ?_
  rintro e w9 ⟨u9, rfl, hA9, hb9⟩
  replace hB := hB.trans (hb9.mono hB.size)
  clear hb9
  go_wp2_with fail
  refine (getHeader_v hA9 (by rw [hm'.out]; omega)).mono ?_
  rintro e wa hg
  obtain ⟨H, Hc, rfl, hbH, Hl, Ho, He, Hp, Hn⟩ := hdrGot_out hg
  rw [hm'.out] at Hp Hn
  have HL := Lib.hid Hl
  have HO := Lib.hid Ho
  have HE := Lib.hid He
  have HP := Lib.hid Hp
  have HN := Lib.hid Hn
  clear hg Hl Ho He Hp Hn
  replace hB := hB.trans (hbH.mono hB.size)
  replace hA9 := hA9.below hbH
  clear hbH
  have hN := Blk.new wa (hdrL z32 0 0).toArray 29
  go_wp2_with (first | (refine wpList_store_row rfl 29 _ _ rfl _ _ rfl rfl 29 _ hN (by rw [List.size_toArray, HL.out]; exact sizeHdr) (by rw [List.size_toArray, List.size_toArray, HL.out, (hdrL_length z32 0 0 (by simp [z32]))]) HO.out ?_) | fail)
  have hBH := hN.row H.toArray
  have hDa : Below wa.heap.size wa ((wa.alloc (.cells (hdrL z32 0 0).toArray 29)).setRow wa.heap.size H.toArray) := below_setRow ((Below.refl _ _).alloc (Nat.le_refl _) _) (Nat.le_refl _) _
  replace hA9 := hA9.below hDa
  replace hB := hB.trans (hDa.mono hB.size)
  clear hN hDa
  change Calls _ _ _ ((wa.alloc (.cells (hdrL z32 0 0).toArray 29)).setRow wa.heap.size H.toArray) _
  generalize (wa.alloc (.cells (hdrL z32 0 0).toArray 29)).setRow wa.heap.size H.toArray = wH at *
  generalize wa.heap.size = gH at *
  refine (getMessage_v hA9 (by rw [hm'.out]; omega)).mono ?_
  rintro e wc hg
  obtain ⟨M, Mc, rfl, hbM, Ml, Mo, Me, Mp, Mn⟩ := msgGot_out hg
  rw [hm'.out] at Mp Mn
  have ML := Lib.hid Ml
  have MO := Lib.hid Mo
  have ME := Lib.hid Me
  have MP := Lib.hid Mp
  have MN := Lib.hid Mn
  clear hg Ml Mo Me Mp Mn
  replace hB := hB.trans (hbM.mono hB.size)
  replace hA9 := hA9.below hbM
  replace hBH := hBH.below hbM hBH.lt
  clear hbM
  have hN := Blk.new wc msg0.toArray 32
  go_wp2_with (first | (refine wpList_store_row rfl 32 _ _ rfl _ _ rfl rfl 32 _ hN (by rw [List.size_toArray, ML.out]; exact sizeMsg) (by rw [List.size_toArray, List.size_toArray, ML.out, msg0_length]) MO.out ?_) | fail)
  have hBM := hN.row M.toArray
  have hDa : Below wc.heap.size wc ((wc.alloc (.cells msg0.toArray 32)).setRow wc.heap.size M.toArray) := below_setRow ((Below.refl _ _).alloc (Nat.le_refl _) _) (Nat.le_refl _) _
  replace hA9 := hA9.below hDa
  replace hB := hB.trans (hDa.mono hB.size)
  replace hBH := hBH.below hDa hBH.lt
  clear hN hDa
  change Calls _ _ _ ((wc.alloc (.cells msg0.toArray 32)).setRow wc.heap.size M.toArray) _
  generalize (wc.alloc (.cells msg0.toArray 32)).setRow wc.heap.size M.toArray = wM at *
  generalize wc.heap.size = gM at *
  refine (getExchange_v hA9 (by rw [hm'.out]; omega)).mono ?_
  rintro e we hg
  obtain ⟨X, Xc, rfl, hbX, Xl, Xo, Xe, Xp, Xn⟩ := excGot_out hg
  rw [hm'.out] at Xp Xn
  have XL := Lib.hid Xl
  have XO := Lib.hid Xo
  have XE := Lib.hid Xe
  have XP := Lib.hid Xp
  have XN := Lib.hid Xn
  clear hg Xl Xo Xe Xp Xn
  replace hB := hB.trans (hbX.mono hB.size)
  replace hA9 := hA9.below hbX
  replace hBH := hBH.below hbX hBH.lt
  replace hBM := hBM.below hbX hBM.lt
  clear hbX
  have hN := Blk.new we exc0.toArray 37
  have hBX := hN.row X.toArray
  have hDa : Below we.heap.size we ((we.alloc (.cells exc0.toArray 37)).setRow we.heap.size X.toArray) := below_setRow ((Below.refl _ _).alloc (Nat.le_refl _) _) (Nat.le_refl _) _
  replace hA9 := hA9.below hDa
  replace hB := hB.trans (hDa.mono hB.size)
  replace hBH := hBH.below hDa hBH.lt
  replace hBM := hBM.below hDa hBM.lt
  have HG : Hid (m = 40 → Hc = 0 ∧ ∀ w', Below w1.heap.size w1 w' → Calls Try.prog 26 #[.slice A2 m c2] w' fun e w'' => e = .returned (.agg H.toArray) ∧ Below w'.heap.size w' w'') := fun h => ⟨(HP.out h).1, fun w' hb => by
    have h1 := rGetHeader_any c A2 m c2 w' (hr2.below hb) hm'.out hc2 (by omega)
    rw [← (HP.out h).2] at h1
    exact h1⟩
  have MG : Hid (m = 105 → Mc = 0 ∧ ∀ w', Below w1.heap.size w1 w' → Calls Try.prog 27 #[.slice A2 m c2] w' fun e w'' => e = .returned (.agg M.toArray) ∧ Below w'.heap.size w' w'') := fun h => ⟨(MP.out h).1, fun w' hb => by
    have h1 := rGetMessage_any c A2 c2 w' (hr2.below hb) (hm'.out.trans h) (by omega)
    rw [← (MP.out h).2] at h1
    rw [h]
    exact h1⟩
  have XG : Hid (m = 146 → Xc = 0 ∧ ∀ w', Below w1.heap.size w1 w' → Calls Try.prog 28 #[.slice A2 m c2] w' fun e w'' => e = .returned (.agg X.toArray) ∧ Below w'.heap.size w' w'') := fun h => ⟨(XP.out h).1, fun w' hb => by
    have h1 := rGetExchange_any c A2 c2 w' (hr2.below hb) (hm'.out.trans h) (by omega)
    rw [← (XP.out h).2] at h1
    rw [h]
    exact h1⟩
  have HZ : Hid (m ≠ 40 → Hc = 240 ∧ ∀ wx, (Instr.build 29 #[]).run Try.prog wx = .ok (.agg H.toArray) wx) := fun h => ⟨(HN.out h).1, fun wx => by rw [(HN.out h).2]; exact build_hdr0 wx⟩
  have MZ : Hid (m ≠ 105 → Mc = 240 ∧ ∀ wx, (Instr.build 32 #[]).run Try.prog wx = .ok (.agg M.toArray) wx) := fun h => ⟨(MN.out h).1, fun wx => by rw [(MN.out h).2]; exact build_msg0 wx⟩
  have XZ : Hid (m ≠ 146 → Xc = 240 ∧ ∀ wx, (Instr.build 37 #[]).run Try.prog wx = .ok (.agg X.toArray) wx) := fun h => ⟨(XN.out h).1, fun wx => by rw [(XN.out h).2]; exact build_exc0 wx⟩
  clear HP MP XP HN MN XN hDa
  have hAr : Hid (Arg w1 (.slice A2 m c2) c) := hA2
  clear hA2 hr2 HM HX HHL HK HBD HD HXB HA hcl
  have hHe := HE.out
  have hMe := ME.out
  have hXe := XE.out
  by_cases h40 : m = 40
  · obtain ⟨rfl, hcall⟩ := HG.out h40
    obtain ⟨rfl, hzM⟩ := MZ.out (by omega)
    obtain ⟨rfl, hzX⟩ := XZ.out (by omega)
    clear HG MG XG HZ MZ XZ
    subst h40
    go_wp2_with (first | (refine wpList_store_row rfl 37 _ _ rfl _ _ rfl rfl 37 _ hN (by rw [List.size_toArray, XL.out]; exact sizeExc) (by rw [List.size_toArray, List.size_toArray, XL.out, exc0_length]) XO.out ?_; change wpList _ _ _ _ _ ((we.alloc (.cells exc0.toArray 37)).setRow we.heap.size X.toArray); generalize (we.alloc (.cells exc0.toArray 37)).setRow we.heap.size X.toArray = wX at *; generalize we.heap.size = gX at *) | fail)
    refine mix_start (fun w' => Below wX.heap.size wX w') (List.range 8) [5] [3] [] (by kernel_rfl) (by kernel_rfl) (fun d _ _ _ _ h => by cases d <;> exact h) (Below.refl _ _).drew ?_
    repeat (refine mix_pure rfl rfl (fun K hK => ?_); go_simp; refine hK _ ?_; clear hK K)
    refine mix_load_row rfl rfl rfl rfl 29 _ rfl gH rfl _ 29 (0, 0) _ (fun w' hS => hBH.below hS hBH.lt) Try.underlying29 rfl (by rw [List.size_toArray, HL.out]; exact sizeHdr) ?_
    repeat (refine mix_pure rfl rfl (fun K hK => ?_); go_simp; refine hK _ ?_; clear hK K)
    refine mix_eff rfl rfl (fun K hK => ?_)
    go_simp
    refine (hcall _ hB.drew).mono ?_
    rintro e wd ⟨rfl, hbd⟩
    have hbS : Below wX.heap.size wX wd := (Below.refl _ _).drew.trans hbd
    refine hK _ _ (fun _ _ => hbS) ?_
    clear hK K hbd
    repeat (refine mix_pure rfl rfl (fun K hK => ?_); go_simp; refine hK _ ?_; clear hK K)
    refine mix_nil ?_
    have hbS' := hbS
    replace hB := hB.trans (hbS.mono hB.size)
    replace hA9 := hA9.below hbS
    replace hBM := hBM.below hbS hBM.lt
    replace hBX := hBX.below hbS hBX.lt
    go_wp2_with (first | (refine wpList_load_part_guarded rfl 32 _ rfl gM 0 rfl 32 M.toArray (0, 0) _ M hBM (fun j v h => by simpa using h) Try.underlying32 rfl (by rw [ML.out]; exact sizeMsg) ?_) | (refine wpList_build_g rfl 32 _ rfl (.agg M.toArray) _ hzM (by simp) ?_) | (refine wpList_load_part_guarded rfl 37 _ rfl gX 0 rfl 37 X.toArray (0, 0) _ X hBX (fun j v h => by simpa using h) Try.underlying37 rfl (by rw [XL.out]; exact sizeExc) ?_) | (refine wpList_build_g rfl 37 _ rfl (.agg X.toArray) _ hzX (by simp) ?_) | fail)
    refine (bytesEqual_v hA9 (hAr.out.below hB)).mono ?_
    rintro e w'' ⟨rfl, rfl⟩
    simp only [beq_self_eq_true]
    go_wp2_with fail
    go_ret
    exact ⟨rfl, hb0.trans (hB.mono hb0.size)⟩
  by_cases h105 : m = 105
  · obtain ⟨rfl, hzH⟩ := HZ.out h40
    obtain ⟨rfl, hcall⟩ := MG.out h105
    obtain ⟨rfl, hzX⟩ := XZ.out (by omega)
    clear HG MG XG HZ MZ XZ h40
    subst h105
    go_wp2_with (first | (refine wpList_store_row rfl 37 _ _ rfl _ _ rfl rfl 37 _ hN (by rw [List.size_toArray, XL.out]; exact sizeExc) (by rw [List.size_toArray, List.size_toArray, XL.out, exc0_length]) XO.out ?_; change wpList _ _ _ _ _ ((we.alloc (.cells exc0.toArray 37)).setRow we.heap.size X.toArray); generalize (we.alloc (.cells exc0.toArray 37)).setRow we.heap.size X.toArray = wX at *; generalize we.heap.size = gX at *) | (refine wpList_load_part_guarded rfl 29 _ rfl gH 0 rfl 29 H.toArray (0, 0) _ H hBH (fun j v h => by simpa using h) Try.underlying29 rfl (by rw [HL.out]; exact sizeHdr) ?_) | (refine wpList_build_g rfl 29 _ rfl (.agg H.toArray) _ hzH (by simp) ?_) | fail)
    refine mix_start (fun w' => Below wX.heap.size wX w') (List.range 8) [5] [3] [] (by kernel_rfl) (by kernel_rfl) (fun d _ _ _ _ h => by cases d <;> exact h) (Below.refl _ _).drew ?_
    repeat (refine mix_pure rfl rfl (fun K hK => ?_); go_simp; refine hK _ ?_; clear hK K)
    refine mix_load_row rfl rfl rfl rfl 32 _ rfl gM rfl _ 32 (0, 0) _ (fun w' hS => hBM.below hS hBM.lt) Try.underlying32 rfl (by rw [List.size_toArray, ML.out]; exact sizeMsg) ?_
    repeat (refine mix_pure rfl rfl (fun K hK => ?_); go_simp; refine hK _ ?_; clear hK K)
    refine mix_eff rfl rfl (fun K hK => ?_)
    go_simp
    refine (hcall _ hB.drew).mono ?_
    rintro e wd ⟨rfl, hbd⟩
    have hbS : Below wX.heap.size wX wd := (Below.refl _ _).drew.trans hbd
    refine hK _ _ (fun _ _ => hbS) ?_
    clear hK K hbd
    repeat (refine mix_pure rfl rfl (fun K hK => ?_); go_simp; refine hK _ ?_; clear hK K)
    refine mix_nil ?_
    have hbS' := hbS
    replace hB := hB.trans (hbS.mono hB.size)
    replace hA9 := hA9.below hbS
    replace hBX := hBX.below hbS hBX.lt
    go_wp2_with (first | (refine wpList_load_part_guarded rfl 37 _ rfl gX 0 rfl 37 X.toArray (0, 0) _ X hBX (fun j v h => by simpa using h) Try.underlying37 rfl (by rw [XL.out]; exact sizeExc) ?_) | (refine wpList_build_g rfl 37 _ rfl (.agg X.toArray) _ hzX (by simp) ?_) | fail)
    refine (bytesEqual_v hA9 (hAr.out.below hB)).mono ?_
    rintro e w'' ⟨rfl, rfl⟩
    simp only [beq_self_eq_true]
    go_wp2_with fail
    go_ret
    exact ⟨rfl, hb0.trans (hB.mono hb0.size)⟩
  by_cases h146 : m = 146
  · obtain ⟨rfl, hzH⟩ := HZ.out h40
    obtain ⟨rfl, hzM⟩ := MZ.out h105
    obtain ⟨rfl, hcall⟩ := XG.out h146
    clear HG MG XG HZ MZ XZ h40 h105
    subst h146
    go_wp2_with (first | (refine wpList_store_row rfl 37 _ _ rfl _ _ rfl rfl 37 _ hN (by rw [List.size_toArray, XL.out]; exact sizeExc) (by rw [List.size_toArray, List.size_toArray, XL.out, exc0_length]) XO.out ?_; change wpList _ _ _ _ _ ((we.alloc (.cells exc0.toArray 37)).setRow we.heap.size X.toArray); generalize (we.alloc (.cells exc0.toArray 37)).setRow we.heap.size X.toArray = wX at *; generalize we.heap.size = gX at *) | (refine wpList_load_part_guarded rfl 29 _ rfl gH 0 rfl 29 H.toArray (0, 0) _ H hBH (fun j v h => by simpa using h) Try.underlying29 rfl (by rw [HL.out]; exact sizeHdr) ?_) | (refine wpList_build_g rfl 29 _ rfl (.agg H.toArray) _ hzH (by simp) ?_) | (refine wpList_load_part_guarded rfl 32 _ rfl gM 0 rfl 32 M.toArray (0, 0) _ M hBM (fun j v h => by simpa using h) Try.underlying32 rfl (by rw [ML.out]; exact sizeMsg) ?_) | (refine wpList_build_g rfl 32 _ rfl (.agg M.toArray) _ hzM (by simp) ?_) | fail)
    refine mix_start (fun w' => Below wX.heap.size wX w') (List.range 9) [5] [3] [] (by kernel_rfl) (by kernel_rfl) (fun d _ _ _ _ h => by cases d <;> exact h) (Below.refl _ _).drew ?_
    repeat (refine mix_pure rfl rfl (fun K hK => ?_); go_simp; refine hK _ ?_; clear hK K)
    refine mix_load_row rfl rfl rfl rfl 37 _ rfl gX rfl _ 37 (0, 0) _ (fun w' hS => hBX.below hS hBX.lt) Try.underlying37 rfl (by rw [List.size_toArray, XL.out]; exact sizeExc) ?_
    repeat (refine mix_pure rfl rfl (fun K hK => ?_); go_simp; refine hK _ ?_; clear hK K)
    refine mix_eff rfl rfl (fun K hK => ?_)
    go_simp
    refine (hcall _ hB.drew).mono ?_
    rintro e wd ⟨rfl, hbd⟩
    have hbS : Below wX.heap.size wX wd := (Below.refl _ _).drew.trans hbd
    refine hK _ _ (fun _ _ => hbS) ?_
    clear hK K hbd
    repeat (refine mix_pure rfl rfl (fun K hK => ?_); go_simp; refine hK _ ?_; clear hK K)
    refine mix_nil ?_
    replace hB := hB.trans (hbS.mono hB.size)
    go_wp2_with fail
    go_ret
    exact ⟨rfl, hb0.trans (hB.mono hb0.size)⟩
  · obtain ⟨rfl, hzH⟩ := HZ.out h40
    obtain ⟨rfl, hzM⟩ := MZ.out h105
    obtain ⟨rfl, hzX⟩ := XZ.out h146
    have e1 : ((m : Int) == 40) = false := by simp; omega
    have e2 : ((m : Int) == 105) = false := by simp; omega
    have e3 : ((m : Int) == 146) = false := by simp; omega
    clear HG MG XG HZ MZ XZ h40 h105 h146
    go_wp2_with (first | (refine wpList_store_row rfl 37 _ _ rfl _ _ rfl rfl 37 _ hN (by rw [List.size_toArray, XL.out]; exact sizeExc) (by rw [List.size_toArray, List.size_toArray, XL.out, exc0_length]) XO.out ?_; change wpList _ _ _ _ _ ((we.alloc (.cells exc0.toArray 37)).setRow we.heap.size X.toArray); generalize (we.alloc (.cells exc0.toArray 37)).setRow we.heap.size X.toArray = wX at *; generalize we.heap.size = gX at *) | (refine wpList_load_part_guarded rfl 29 _ rfl gH 0 rfl 29 H.toArray (0, 0) _ H hBH (fun j v h => by simpa using h) Try.underlying29 rfl (by rw [HL.out]; exact sizeHdr) ?_) | (refine wpList_build_g rfl 29 _ rfl (.agg H.toArray) _ hzH (by simp) ?_) | (refine wpList_load_part_guarded rfl 32 _ rfl gM 0 rfl 32 M.toArray (0, 0) _ M hBM (fun j v h => by simpa using h) Try.underlying32 rfl (by rw [ML.out]; exact sizeMsg) ?_) | (refine wpList_build_g rfl 32 _ rfl (.agg M.toArray) _ hzM (by simp) ?_) | (refine wpList_load_part_guarded rfl 37 _ rfl gX 0 rfl 37 X.toArray (0, 0) _ X hBX (fun j v h => by simpa using h) Try.underlying37 rfl (by rw [XL.out]; exact sizeExc) ?_) | (refine wpList_build_g rfl 37 _ rfl (.agg X.toArray) _ hzX (by simp) ?_) | fail)
    refine (bytesEqual_v hA9 (hAr.out.below hB)).mono ?_
    rintro e w'' ⟨rfl, rfl⟩
    simp only [beq_self_eq_true]
    go_wp2_with fail
    go_ret
    exact ⟨rfl, hb0.trans (hB.mono hb0.size)⟩
end Go.Proofs.Ytjnbgoiaocpcjaa
