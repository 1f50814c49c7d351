/- Which packets any bytes are, and of which kind (printed by genfreads.py). -/
import Derived.Test.YtjnbgoiaocpcjaaFrKindR
import Derived.Test.YtjnbgoiaocpcjaaRoomCut
import Derived.Test.YtjnbgoiaocpcjaaWakes
namespace Go.Proofs.Ytjnbgoiaocpcjaa
open Go.RowKit
set_option linter.unusedVariables false
set_option linter.unusedSimpArgs false
theorem rd_ne {w : World} {A : Option Addr} {L : List (BitVec 8)} {G : Nat} {T : TypeId} (h : Rd w .u8 A L) (h0 : 0 < L.length) (hB : Blk w G #[.int .i64 0, .int .i64 0, .int .u64 0, .slice none 0 0] T) : ∀ a, A = some a → a.block ≠ G := by
  intro a ha e
  obtain ⟨g, off, he, hc⟩ := h 0 h0
  rw [ha] at he
  cases he
  simp only at e
  subst e
  rw [hB.cell, Nat.add_zero] at hc
  rcases off with _ | _ | _ | _ | off <;> simp at hc
theorem len_up {n : Nat} (h : szOnion n = true) : 200 ≤ n := by unfold szOnion onionB at h; simp at h; omega
theorem len_down {n : Nat} (h : szReply n = true) : 150 ≤ n := by unfold szReply replyB at h; simp at h; omega
set_option maxRecDepth 100000 in
set_option maxHeartbeats 16000000 in
theorem freads_walk (b : List (BitVec 8)) (A : Option Addr) (cap : Nat) (w : World) (hR : Rd w .u8 A b) (hc : b.length ≤ cap) :
    Calls Try.prog 9 #[.slice A b.length cap] w fun e w' => e = .returned (.bool true) ∧ Below w.heap.size w w' := by
  have HB := Lib.hid (arg_mk hR hc)
  obtain ⟨d, hd⟩ : ∃ d, d = b.take 1000 := ⟨_, rfl⟩
  have hdl : d.length ≤ 1000 := by rw [hd, List.length_take]; omega
  have HD := Lib.hid hd
  have HDL := Lib.hid hdl
  have HM : Hid (d.length ≤ 1048576) := by show _ ≤ _; omega
  have hwr : IntKind.i64.wrap ((d.length : Int) - 11) = (d.length : Int) - 11 := IntWalk.i64_in _ (by omega)
  have HSO : Hid ((decide ((d.length : Int) - 11 = 194) || decide ((d.length : Int) - 11 = 242) || decide ((d.length : Int) - 11 = 290)) = szOnion d.length) := rfl
  have HSR : Hid ((decide ((d.length : Int) - 11 = 146) || decide ((d.length : Int) - 11 = 162) || decide ((d.length : Int) - 11 = 178)) = szReply d.length) := rfl
  have HDD : Hid ((d == d) = true) := by show _ = _; simp
  obtain ⟨X, hX⟩ : ∃ X, X = d.drop 11 := ⟨_, rfl⟩
  have HXL : Hid (X.length = d.length - 11) := by show _ = _; rw [hX, List.length_drop]
  have HX := Lib.hid hX
  obtain ⟨cb, hcb⟩ : ∃ x, x = d.getD 1 0 := ⟨_, rfl⟩
  obtain ⟨sb, hsb⟩ : ∃ x, x = d.getD 2 0 := ⟨_, rfl⟩
  obtain ⟨RR, hrr⟩ : ∃ x, x = get64 (d.drop 3) := ⟨_, rfl⟩
  have HCB := Lib.hid hcb
  have HSB := Lib.hid hsb
  have HRR := Lib.hid hrr
  clear hX hcb hsb hrr
  have HLL : Hid ((X == X) = true) := by show _ = _; simp
  have HO := Lib.hid (fun wx => ronion_any ((d.length : Int) - 11) wx)
  have HRY := Lib.hid (fun wx => rreply_any ((d.length : Int) - 11) wx)
  clear hR hc hd
  go_enter Try.func9, Try.ntmps9
  go_wp2_with fail
  refine (wakes_any w).mono ?_
  rintro e w1 ⟨rfl, hw⟩
  go_wp2_with fail
  refine (cut_v (HB.out.below hw)).mono ?_
  rintro e w' ⟨u0, rfl, a0, rfl⟩
  rw [← HD.out] at a0
  obtain ⟨A0, c0, rfl, -, -⟩ := id a0
  go_wp2_with fail
  refine (room_v a0 HDL.out).mono ?_
  rintro e w2 ⟨u3, rfl, a3, hn⟩
  replace a0 := a0.below hn
  replace hw := hw.trans (hn.mono hw.size)
  obtain ⟨A3, c3, rfl, -, -⟩ := id a3
  clear hn
  go_wp2_with fail
  have HGU := Lib.hid (getup_any d _ w2 a3 HM.out)
  unfold UpGot at HGU
  obtain ⟨C4, hC4⟩ : ∃ x, x = pkC (szOnion d.length && pkOk 2 d) d := ⟨_, rfl⟩
  obtain ⟨S4, hS4⟩ : ∃ x, x = pkS (szOnion d.length && pkOk 2 d) d := ⟨_, rfl⟩
  obtain ⟨R4, hR4⟩ : ∃ x, x = pkR (szOnion d.length && pkOk 2 d) d := ⟨_, rfl⟩
  obtain ⟨L4, hL4⟩ : ∃ x, x = pkL (szOnion d.length && pkOk 2 d) d := ⟨_, rfl⟩
  obtain ⟨E4, hE4⟩ : ∃ x, x = pkE (szOnion d.length) (pkOk 2 d) := ⟨_, rfl⟩
  have HU : Hid (C4 = pkC (szOnion d.length && pkOk 2 d) d ∧ S4 = pkS (szOnion d.length && pkOk 2 d) d ∧ R4 = pkR (szOnion d.length && pkOk 2 d) d ∧ L4 = pkL (szOnion d.length && pkOk 2 d) d ∧ E4 = pkE (szOnion d.length) (pkOk 2 d)) := ⟨hC4, hS4, hR4, hL4, hE4⟩
  rw [← hC4, ← hS4, ← hR4, ← hL4, ← hE4] at HGU
  clear hC4 hS4 hR4 hL4 hE4
  refine HGU.out.mono ?_
  rintro e w3 ⟨v4, rfl, o4, hn⟩
  replace a0 := a0.below hn
  replace a3 := a3.below hn
  replace hw := hw.trans (hn.mono hw.size)
  have a4 := o4.arg
  obtain ⟨A4, c4, rfl, -, -⟩ := id a4
  clear hn HGU o4
  have hn := (Below.refl w3.heap.size w3).alloc (Nat.le_refl _) (.cells #[.int .i64 C4, .int .i64 S4, .int .u64 (wb R4), .slice A4 L4.length c4] 57)
  have mb4 := Blk.new w3 #[.int .i64 C4, .int .i64 S4, .int .u64 (wb R4), .slice A4 L4.length c4] 57
  replace a0 := a0.below hn
  replace a3 := a3.below hn
  replace a4 := a4.below hn
  replace hw := hw.trans (hn.mono hw.size)
  clear hn
  go_wp2_with (first | (refine wpList_store_last rfl 57 _ _ rfl _ _ #[.int .i64 C4, .int .i64 S4, .int .u64 (wb R4), .slice A4 L4.length c4] 57 rfl rfl rfl (by exact gsize_up) (by simp) (by simp [Value.oneCell']) ?_; generalize w3.alloc (.cells #[.int .i64 C4, .int .i64 S4, .int .u64 (wb R4), .slice A4 L4.length c4] 57) = w4 at *) | fail)
  have HGD := Lib.hid (getdown_any d _ w4 a3 HM.out)
  unfold UpGot at HGD
  obtain ⟨C6, hC6⟩ : ∃ x, x = pkC (szReply d.length && pkOk 3 d) d := ⟨_, rfl⟩
  obtain ⟨S6, hS6⟩ : ∃ x, x = pkS (szReply d.length && pkOk 3 d) d := ⟨_, rfl⟩
  obtain ⟨R6, hR6⟩ : ∃ x, x = pkR (szReply d.length && pkOk 3 d) d := ⟨_, rfl⟩
  obtain ⟨L6, hL6⟩ : ∃ x, x = pkL (szReply d.length && pkOk 3 d) d := ⟨_, rfl⟩
  obtain ⟨E6, hE6⟩ : ∃ x, x = pkE (szReply d.length) (pkOk 3 d) := ⟨_, rfl⟩
  have HV : Hid (C6 = pkC (szReply d.length && pkOk 3 d) d ∧ S6 = pkS (szReply d.length && pkOk 3 d) d ∧ R6 = pkR (szReply d.length && pkOk 3 d) d ∧ L6 = pkL (szReply d.length && pkOk 3 d) d ∧ E6 = pkE (szReply d.length) (pkOk 3 d)) := ⟨hC6, hS6, hR6, hL6, hE6⟩
  rw [← hC6, ← hS6, ← hR6, ← hL6, ← hE6] at HGD
  clear hC6 hS6 hR6 hL6 hE6
  refine HGD.out.mono ?_
  rintro e w5 ⟨v6, rfl, o6, hn⟩
  replace a0 := a0.below hn
  replace a3 := a3.below hn
  replace a4 := a4.below hn
  replace mb4 := mb4.below hn mb4.lt
  replace hw := hw.trans (hn.mono hw.size)
  have a6 := o6.arg
  obtain ⟨A6, c6, rfl, -, -⟩ := id a6
  clear hn HGD o6
  have hn := (Below.refl w5.heap.size w5).alloc (Nat.le_refl _) (.cells #[.int .i64 C6, .int .i64 S6, .int .u64 (wb R6), .slice A6 L6.length c6] 59)
  have mb6 := Blk.new w5 #[.int .i64 C6, .int .i64 S6, .int .u64 (wb R6), .slice A6 L6.length c6] 59
  replace a0 := a0.below hn
  replace a3 := a3.below hn
  replace a4 := a4.below hn
  replace a6 := a6.below hn
  replace mb4 := mb4.below hn mb4.lt
  replace hw := hw.trans (hn.mono hw.size)
  clear hn
  go_wp2_with (first | (refine wpList_store_last rfl 59 _ _ rfl _ _ #[.int .i64 C6, .int .i64 S6, .int .u64 (wb R6), .slice A6 L6.length c6] 59 rfl rfl rfl (by exact gsize_down) (by simp) (by simp [Value.oneCell']) ?_; generalize w5.alloc (.cells #[.int .i64 C6, .int .i64 S6, .int .u64 (wb R6), .slice A6 L6.length c6] 59) = w6 at *) | fail)
  refine (kind_any d _ w6 a3 HM.out).mono ?_
  rintro e w7 ⟨rfl, hn⟩
  replace a0 := a0.below hn
  replace a3 := a3.below hn
  replace a4 := a4.below hn
  replace a6 := a6.below hn
  replace mb4 := mb4.below hn mb4.lt
  replace mb6 := mb6.below hn mb6.lt
  replace hw := hw.trans (hn.mono hw.size)
  clear hn
  have HRK := Lib.hid (rkind_any d _ w7 a0 HM.out)
  generalize kindB d = kd at *
  go_wp2_with fail
  refine HRK.out.mono ?_
  rintro e w8 ⟨rfl, hn⟩
  replace a0 := a0.below hn
  replace a3 := a3.below hn
  replace a4 := a4.below hn
  replace a6 := a6.below hn
  replace mb4 := mb4.below hn mb4.lt
  replace mb6 := mb6.below hn mb6.lt
  replace hw := hw.trans (hn.mono hw.size)
  clear hn HRK
  have hkk : (kd != kd) = false := by simp
  go_wp2_with fail
  refine (bytesEqual_v a3 a0).mono ?_
  rintro e w' ⟨rfl, rfl⟩
  rw [HDD.out]
  have FB : Hid (∀ wx, Below w8.heap.size w8 wx → Arg wx (.slice A0 d.length c0) d ∧ Blk wx w3.heap.size #[.int .i64 C4, .int .i64 S4, .int .u64 (wb R4), .slice A4 L4.length c4] 57 ∧ Arg wx (.slice A4 L4.length c4) L4 ∧ Blk wx w5.heap.size #[.int .i64 C6, .int .i64 S6, .int .u64 (wb R6), .slice A6 L6.length c6] 59 ∧ Arg wx (.slice A6 L6.length c6) L6 ∧ Below w.heap.size w wx) := fun wx h => ⟨a0.below h, mb4.below h mb4.lt, a4.below h, mb6.below h mb6.lt, a6.below h, hw.trans (h.mono hw.size)⟩
  have HW8 := Lib.hid hw.size
  clear a0 a3 a4 a6 mb4 mb6 hw
  have hx := (Below.refl w8.heap.size w8).alloc (Nat.le_refl _) (.cells #[.int .i64 0, .int .i64 0, .int .u64 0, .slice none 0 0] 57)
  have mb8 := Blk.new w8 #[.int .i64 0, .int .i64 0, .int .u64 0, .slice none 0 0] 57
  go_wp2_with (first | (refine wpList_store_last rfl 57 _ _ rfl _ _ #[.int .i64 0, .int .i64 0, .int .u64 0, .slice none 0 0] 57 rfl rfl rfl (by exact gsize_up) (by simp) (by simp [Value.oneCell']) ?_; generalize w8.alloc (.cells #[.int .i64 0, .int .i64 0, .int .u64 0, .slice none 0 0] 57) = w9 at *) | fail)
  refine (HO.out w9).mono ?_
  rintro e w' ⟨⟨h, rfl, h0, h1⟩, rfl⟩
  rw [HSO.out] at h1
  cases hz : szOnion d.length with
  | false =>
    rw [hz] at h1 HU
    have hh : ¬ (0 < h) := of_decide_eq_false h1
    clear h1
    have e1 : C4 = 0 := HU.out.1
    have e2 : S4 = 0 := HU.out.2.1
    have e3 : R4 = 0 := HU.out.2.2.1
    have e4 : L4 = [] := HU.out.2.2.2.1
    have e5 : E4 = 240 := HU.out.2.2.2.2
    subst e1 e2 e3 e4 e5
    have mb4 := (FB.out w9 hx).2.1
    have k10_0 : w9.cell? ⟨w3.heap.size, 0, none⟩ = some (.int .i64 0) := mb4.cell 0
    have k10_1 : w9.cell? ⟨w3.heap.size, 1, none⟩ = some (.int .i64 0) := mb4.cell 1
    have k10_2 : w9.cell? ⟨w3.heap.size, 2, none⟩ = some (.int .u64 0) := mb4.cell 2
    have k10_3 : w9.cell? ⟨w3.heap.size, 3, none⟩ = some (.slice A4 0 c4) := mb4.cell 3
    clear mb4
    have hy := hx.trans (((Below.refl w9.heap.size w9).alloc (Nat.le_refl _) (.cells #[.int .i64 0, .int .i64 0, .int .u64 0, .slice none 0 0] 59)).mono hx.size)
    have mb11 := Blk.new w9 #[.int .i64 0, .int .i64 0, .int .u64 0, .slice none 0 0] 59
    have HG11 := Lib.hid hx.size
    go_wp2_with (first | (refine wpList_store_last rfl 59 _ _ rfl _ _ #[.int .i64 0, .int .i64 0, .int .u64 0, .slice none 0 0] 59 rfl rfl rfl (by exact gsize_down) (by simp) (by simp [Value.oneCell']) ?_; generalize w9.alloc (.cells #[.int .i64 0, .int .i64 0, .int .u64 0, .slice none 0 0] 59) = w11d at *) | fail)
    replace hx := hy
    clear hy
    refine (HRY.out w11d).mono ?_
    rintro e w' ⟨⟨h, rfl, h0, h1⟩, rfl⟩
    rw [HSR.out] at h1
    cases hz : szReply d.length with
    | false =>
      rw [hz] at h1 HV
      have hh : ¬ (0 < h) := of_decide_eq_false h1
      clear h1
      have e1 : C6 = 0 := HV.out.1
      have e2 : S6 = 0 := HV.out.2.1
      have e3 : R6 = 0 := HV.out.2.2.1
      have e4 : L6 = [] := HV.out.2.2.2.1
      have e5 : E6 = 240 := HV.out.2.2.2.2
      subst e1 e2 e3 e4 e5
      have mb6 := (FB.out w11d hx).2.2.2.1
      have k12_0 : w11d.cell? ⟨w5.heap.size, 0, none⟩ = some (.int .i64 0) := mb6.cell 0
      have k12_1 : w11d.cell? ⟨w5.heap.size, 1, none⟩ = some (.int .i64 0) := mb6.cell 1
      have k12_2 : w11d.cell? ⟨w5.heap.size, 2, none⟩ = some (.int .u64 0) := mb6.cell 2
      have k12_3 : w11d.cell? ⟨w5.heap.size, 3, none⟩ = some (.slice A6 0 c6) := mb6.cell 3
      clear mb6
      go_wp2_with (first | fail)
      go_ret
      exact ⟨rfl, (FB.out _ hx).2.2.2.2.2⟩
    | true =>
      rw [hz] at h1 HV
      have hh : 0 < h := of_decide_eq_true h1
      clear h1
      go_wp2_with fail
      refine (rgetdown_any d _ w11d (FB.out _ hx).1 HM.out (by have := len_down hz; omega)).mono ?_
      rintro e w12 ⟨v12, rfl, a12, hn⟩
      rw [← HCB.out, ← HSB.out, ← HRR.out]
      rw [← HX.out] at a12
      obtain ⟨A12, c12, rfl, hc12, hr12⟩ := id a12
      have hn0 := mb11.lt
      replace mb11 := mb11.below hn mb11.lt
      have hne := rd_ne hr12 (by rw [HXL.out]; have := len_down hz; omega) mb11
      replace hx := hx.trans (hn.mono hx.size)
      clear hn a12 hn0
      have hub := (Upd.refl w9.heap.size w12).setRow #[.int .i64 (wb cb), .int .i64 (wb sb), .int .u64 (wb RR), .slice A12 X.length c12]
      have mbr := mb11.row #[.int .i64 (wb cb), .int .i64 (wb sb), .int .u64 (wb RR), .slice A12 X.length c12]
      have hr2 := hr12.upd hub hne
      have hx2 := below_setRow hx (show w8.heap.size ≤ w9.heap.size by have := HG11.out; omega) #[.int .i64 (wb cb), .int .i64 (wb sb), .int .u64 (wb RR), .slice A12 X.length c12]
      clear hub hr12 hne
      cases hp : pkOk 3 d with
      | false =>
        rw [hp] at HV
        have e1 : C6 = 0 := HV.out.1
        have e2 : S6 = 0 := HV.out.2.1
        have e3 : R6 = 0 := HV.out.2.2.1
        have e4 : L6 = [] := HV.out.2.2.2.1
        have e5 : E6 = 241 := HV.out.2.2.2.2
        subst e1 e2 e3 e4 e5
        have mb6 := (FB.out _ hx2).2.2.2.1
        have k12_0 : (w12.setRow w9.heap.size #[.int .i64 (wb cb), .int .i64 (wb sb), .int .u64 (wb RR), .slice A12 X.length c12]).cell? ⟨w5.heap.size, 0, none⟩ = some (.int .i64 0) := mb6.cell 0
        have k12_1 : (w12.setRow w9.heap.size #[.int .i64 (wb cb), .int .i64 (wb sb), .int .u64 (wb RR), .slice A12 X.length c12]).cell? ⟨w5.heap.size, 1, none⟩ = some (.int .i64 0) := mb6.cell 1
        have k12_2 : (w12.setRow w9.heap.size #[.int .i64 (wb cb), .int .i64 (wb sb), .int .u64 (wb RR), .slice A12 X.length c12]).cell? ⟨w5.heap.size, 2, none⟩ = some (.int .u64 0) := mb6.cell 2
        have k12_3 : (w12.setRow w9.heap.size #[.int .i64 (wb cb), .int .i64 (wb sb), .int .u64 (wb RR), .slice A12 X.length c12]).cell? ⟨w5.heap.size, 3, none⟩ = some (.slice A6 0 c6) := mb6.cell 3
        clear mb6 mbr hr2
        go_wp2_with (first | (refine wpList_store_row rfl 59 _ _ rfl _ _ rfl rfl 59 _ mb11 (by exact gsize_down) (by simp) (by simp [Value.oneCell']) ?_; generalize w12.setRow w9.heap.size #[.int .i64 (wb cb), .int .i64 (wb sb), .int .u64 (wb RR), .slice A12 X.length c12] = w12s at *; clear mb11 hx; have hx := hx2; clear hx2) | fail)
        go_ret
        exact ⟨rfl, (FB.out _ hx).2.2.2.2.2⟩
      | true =>
        rw [hp] at HV
        have e1 : C6 = wb cb := by rw [HCB.out]; exact HV.out.1
        have e2 : S6 = wb sb := by rw [HSB.out]; exact HV.out.2.1
        have e3 : RR = R6 := by rw [HRR.out]; exact HV.out.2.2.1.symm
        have e4 : X = L6 := ((show L6 = d.drop 11 from HV.out.2.2.2.1).trans HX.out.symm).symm
        have e5 : E6 = 0 := HV.out.2.2.2.2
        subst e1 e2 e3 e4 e5
        have mb6 := (FB.out _ hx2).2.2.2.1
        have aE := (FB.out _ hx2).2.2.2.2.1
        have k12_0 : (w12.setRow w9.heap.size #[.int .i64 (wb cb), .int .i64 (wb sb), .int .u64 (wb RR), .slice A12 X.length c12]).cell? ⟨w5.heap.size, 0, none⟩ = some (.int .i64 (wb cb)) := mb6.cell 0
        have k12_1 : (w12.setRow w9.heap.size #[.int .i64 (wb cb), .int .i64 (wb sb), .int .u64 (wb RR), .slice A12 X.length c12]).cell? ⟨w5.heap.size, 1, none⟩ = some (.int .i64 (wb sb)) := mb6.cell 1
        have k12_2 : (w12.setRow w9.heap.size #[.int .i64 (wb cb), .int .i64 (wb sb), .int .u64 (wb RR), .slice A12 X.length c12]).cell? ⟨w5.heap.size, 2, none⟩ = some (.int .u64 (wb RR)) := mb6.cell 2
        have k12_3 : (w12.setRow w9.heap.size #[.int .i64 (wb cb), .int .i64 (wb sb), .int .u64 (wb RR), .slice A12 X.length c12]).cell? ⟨w5.heap.size, 3, none⟩ = some (.slice A6 X.length c6) := mb6.cell 3
        have j12_0 : (w12.setRow w9.heap.size #[.int .i64 (wb cb), .int .i64 (wb sb), .int .u64 (wb RR), .slice A12 X.length c12]).cell? ⟨w9.heap.size, 0, none⟩ = some (.int .i64 (wb cb)) := mbr.cell 0
        have j12_1 : (w12.setRow w9.heap.size #[.int .i64 (wb cb), .int .i64 (wb sb), .int .u64 (wb RR), .slice A12 X.length c12]).cell? ⟨w9.heap.size, 1, none⟩ = some (.int .i64 (wb sb)) := mbr.cell 1
        have j12_2 : (w12.setRow w9.heap.size #[.int .i64 (wb cb), .int .i64 (wb sb), .int .u64 (wb RR), .slice A12 X.length c12]).cell? ⟨w9.heap.size, 2, none⟩ = some (.int .u64 (wb RR)) := mbr.cell 2
        have j12_3 : (w12.setRow w9.heap.size #[.int .i64 (wb cb), .int .i64 (wb sb), .int .u64 (wb RR), .slice A12 X.length c12]).cell? ⟨w9.heap.size, 3, none⟩ = some (.slice A12 X.length c12) := mbr.cell 3
        clear mb6 mbr
        have HEQ := Lib.hid (bytesEqual_v aE ⟨A12, c12, rfl, hc12, hr2⟩)
        rw [HLL.out] at HEQ
        clear aE hr2
        go_wp2_with (first | (refine wpList_store_row rfl 59 _ _ rfl _ _ rfl rfl 59 _ mb11 (by exact gsize_down) (by simp) (by simp [Value.oneCell']) ?_; generalize w12.setRow w9.heap.size #[.int .i64 (wb cb), .int .i64 (wb sb), .int .u64 (wb RR), .slice A12 X.length c12] = w12s at *; clear mb11 hx; have hx := hx2; clear hx2) | fail)
        refine HEQ.out.mono ?_
        rintro e w' ⟨rfl, rfl⟩
        go_wp2_with (first | fail)
        go_ret
        exact ⟨rfl, (FB.out _ hx).2.2.2.2.2⟩
  | true =>
    rw [hz] at h1 HU
    have hh : 0 < h := of_decide_eq_true h1
    clear h1
    go_wp2_with fail
    refine (rgetup_any d _ w9 (FB.out _ hx).1 HM.out (by have := len_up hz; omega)).mono ?_
    rintro e w10 ⟨v10, rfl, a10, hn⟩
    rw [← HCB.out, ← HSB.out, ← HRR.out]
    rw [← HX.out] at a10
    obtain ⟨A10, c10, rfl, hc10, hr10⟩ := id a10
    have hn0 := mb8.lt
    replace mb8 := mb8.below hn mb8.lt
    have hne := rd_ne hr10 (by rw [HXL.out]; have := len_up hz; omega) mb8
    replace hx := hx.trans (hn.mono hx.size)
    clear hn a10 hn0
    have hub := (Upd.refl w8.heap.size w10).setRow #[.int .i64 (wb cb), .int .i64 (wb sb), .int .u64 (wb RR), .slice A10 X.length c10]
    have mbr := mb8.row #[.int .i64 (wb cb), .int .i64 (wb sb), .int .u64 (wb RR), .slice A10 X.length c10]
    have hr2 := hr10.upd hub hne
    have hx2 := below_setRow hx (show w8.heap.size ≤ w8.heap.size by omega) #[.int .i64 (wb cb), .int .i64 (wb sb), .int .u64 (wb RR), .slice A10 X.length c10]
    clear hub hr10 hne
    cases hp : pkOk 2 d with
    | false =>
      rw [hp] at HU
      have e1 : C4 = 0 := HU.out.1
      have e2 : S4 = 0 := HU.out.2.1
      have e3 : R4 = 0 := HU.out.2.2.1
      have e4 : L4 = [] := HU.out.2.2.2.1
      have e5 : E4 = 241 := HU.out.2.2.2.2
      subst e1 e2 e3 e4 e5
      have mb4 := (FB.out _ hx2).2.1
      have k10_0 : (w10.setRow w8.heap.size #[.int .i64 (wb cb), .int .i64 (wb sb), .int .u64 (wb RR), .slice A10 X.length c10]).cell? ⟨w3.heap.size, 0, none⟩ = some (.int .i64 0) := mb4.cell 0
      have k10_1 : (w10.setRow w8.heap.size #[.int .i64 (wb cb), .int .i64 (wb sb), .int .u64 (wb RR), .slice A10 X.length c10]).cell? ⟨w3.heap.size, 1, none⟩ = some (.int .i64 0) := mb4.cell 1
      have k10_2 : (w10.setRow w8.heap.size #[.int .i64 (wb cb), .int .i64 (wb sb), .int .u64 (wb RR), .slice A10 X.length c10]).cell? ⟨w3.heap.size, 2, none⟩ = some (.int .u64 0) := mb4.cell 2
      have k10_3 : (w10.setRow w8.heap.size #[.int .i64 (wb cb), .int .i64 (wb sb), .int .u64 (wb RR), .slice A10 X.length c10]).cell? ⟨w3.heap.size, 3, none⟩ = some (.slice A4 0 c4) := mb4.cell 3
      clear mb4 mbr hr2
      go_wp2_with (first | (refine wpList_store_row rfl 57 _ _ rfl _ _ rfl rfl 57 _ mb8 (by exact gsize_up) (by simp) (by simp [Value.oneCell']) ?_; generalize w10.setRow w8.heap.size #[.int .i64 (wb cb), .int .i64 (wb sb), .int .u64 (wb RR), .slice A10 X.length c10] = w10s at *; clear mb8 hx; have hx := hx2; clear hx2; have hy := hx.trans (((Below.refl w10s.heap.size w10s).alloc (Nat.le_refl _) (.cells #[.int .i64 0, .int .i64 0, .int .u64 0, .slice none 0 0] 59)).mono hx.size); have mb11 := Blk.new w10s #[.int .i64 0, .int .i64 0, .int .u64 0, .slice none 0 0] 59; have HG11 := Lib.hid hx.size) | (refine wpList_store_last rfl 59 _ _ rfl _ _ #[.int .i64 0, .int .i64 0, .int .u64 0, .slice none 0 0] 59 rfl rfl rfl (by exact gsize_down) (by simp) (by simp [Value.oneCell']) ?_; generalize w10s.alloc (.cells #[.int .i64 0, .int .i64 0, .int .u64 0, .slice none 0 0] 59) = w13d at *) | fail)
      replace hx := hy
      clear hy
      refine (HRY.out w13d).mono ?_
      rintro e w' ⟨⟨h, rfl, h0, h1⟩, rfl⟩
      rw [HSR.out] at h1
      cases hz : szReply d.length with
      | false =>
        rw [hz] at h1 HV
        have hh : ¬ (0 < h) := of_decide_eq_false h1
        clear h1
        have e1 : C6 = 0 := HV.out.1
        have e2 : S6 = 0 := HV.out.2.1
        have e3 : R6 = 0 := HV.out.2.2.1
        have e4 : L6 = [] := HV.out.2.2.2.1
        have e5 : E6 = 240 := HV.out.2.2.2.2
        subst e1 e2 e3 e4 e5
        have mb6 := (FB.out w13d hx).2.2.2.1
        have k14_0 : w13d.cell? ⟨w5.heap.size, 0, none⟩ = some (.int .i64 0) := mb6.cell 0
        have k14_1 : w13d.cell? ⟨w5.heap.size, 1, none⟩ = some (.int .i64 0) := mb6.cell 1
        have k14_2 : w13d.cell? ⟨w5.heap.size, 2, none⟩ = some (.int .u64 0) := mb6.cell 2
        have k14_3 : w13d.cell? ⟨w5.heap.size, 3, none⟩ = some (.slice A6 0 c6) := mb6.cell 3
        clear mb6
        go_wp2_with (first | fail)
        go_ret
        exact ⟨rfl, (FB.out _ hx).2.2.2.2.2⟩
      | true =>
        rw [hz] at h1 HV
        have hh : 0 < h := of_decide_eq_true h1
        clear h1
        go_wp2_with fail
        refine (rgetdown_any d _ w13d (FB.out _ hx).1 HM.out (by have := len_down hz; omega)).mono ?_
        rintro e w14 ⟨v14, rfl, a14, hn⟩
        rw [← HCB.out, ← HSB.out, ← HRR.out]
        rw [← HX.out] at a14
        obtain ⟨A14, c14, rfl, hc14, hr14⟩ := id a14
        have hn0 := mb11.lt
        replace mb11 := mb11.below hn mb11.lt
        have hne := rd_ne hr14 (by rw [HXL.out]; have := len_down hz; omega) mb11
        replace hx := hx.trans (hn.mono hx.size)
        clear hn a14 hn0
        have hub := (Upd.refl w10s.heap.size w14).setRow #[.int .i64 (wb cb), .int .i64 (wb sb), .int .u64 (wb RR), .slice A14 X.length c14]
        have mbr := mb11.row #[.int .i64 (wb cb), .int .i64 (wb sb), .int .u64 (wb RR), .slice A14 X.length c14]
        have hr2 := hr14.upd hub hne
        have hx2 := below_setRow hx (show w8.heap.size ≤ w10s.heap.size by have := HG11.out; omega) #[.int .i64 (wb cb), .int .i64 (wb sb), .int .u64 (wb RR), .slice A14 X.length c14]
        clear hub hr14 hne
        cases hp : pkOk 3 d with
        | false =>
          rw [hp] at HV
          have e1 : C6 = 0 := HV.out.1
          have e2 : S6 = 0 := HV.out.2.1
          have e3 : R6 = 0 := HV.out.2.2.1
          have e4 : L6 = [] := HV.out.2.2.2.1
          have e5 : E6 = 241 := HV.out.2.2.2.2
          subst e1 e2 e3 e4 e5
          have mb6 := (FB.out _ hx2).2.2.2.1
          have k14_0 : (w14.setRow w10s.heap.size #[.int .i64 (wb cb), .int .i64 (wb sb), .int .u64 (wb RR), .slice A14 X.length c14]).cell? ⟨w5.heap.size, 0, none⟩ = some (.int .i64 0) := mb6.cell 0
          have k14_1 : (w14.setRow w10s.heap.size #[.int .i64 (wb cb), .int .i64 (wb sb), .int .u64 (wb RR), .slice A14 X.length c14]).cell? ⟨w5.heap.size, 1, none⟩ = some (.int .i64 0) := mb6.cell 1
          have k14_2 : (w14.setRow w10s.heap.size #[.int .i64 (wb cb), .int .i64 (wb sb), .int .u64 (wb RR), .slice A14 X.length c14]).cell? ⟨w5.heap.size, 2, none⟩ = some (.int .u64 0) := mb6.cell 2
          have k14_3 : (w14.setRow w10s.heap.size #[.int .i64 (wb cb), .int .i64 (wb sb), .int .u64 (wb RR), .slice A14 X.length c14]).cell? ⟨w5.heap.size, 3, none⟩ = some (.slice A6 0 c6) := mb6.cell 3
          clear mb6 mbr hr2
          go_wp2_with (first | (refine wpList_store_row rfl 59 _ _ rfl _ _ rfl rfl 59 _ mb11 (by exact gsize_down) (by simp) (by simp [Value.oneCell']) ?_; generalize w14.setRow w10s.heap.size #[.int .i64 (wb cb), .int .i64 (wb sb), .int .u64 (wb RR), .slice A14 X.length c14] = w14s at *; clear mb11 hx; have hx := hx2; clear hx2) | fail)
          go_ret
          exact ⟨rfl, (FB.out _ hx).2.2.2.2.2⟩
        | true =>
          rw [hp] at HV
          have e1 : C6 = wb cb := by rw [HCB.out]; exact HV.out.1
          have e2 : S6 = wb sb := by rw [HSB.out]; exact HV.out.2.1
          have e3 : RR = R6 := by rw [HRR.out]; exact HV.out.2.2.1.symm
          have e4 : X = L6 := ((show L6 = d.drop 11 from HV.out.2.2.2.1).trans HX.out.symm).symm
          have e5 : E6 = 0 := HV.out.2.2.2.2
          subst e1 e2 e3 e4 e5
          have mb6 := (FB.out _ hx2).2.2.2.1
          have aE := (FB.out _ hx2).2.2.2.2.1
          have k14_0 : (w14.setRow w10s.heap.size #[.int .i64 (wb cb), .int .i64 (wb sb), .int .u64 (wb RR), .slice A14 X.length c14]).cell? ⟨w5.heap.size, 0, none⟩ = some (.int .i64 (wb cb)) := mb6.cell 0
          have k14_1 : (w14.setRow w10s.heap.size #[.int .i64 (wb cb), .int .i64 (wb sb), .int .u64 (wb RR), .slice A14 X.length c14]).cell? ⟨w5.heap.size, 1, none⟩ = some (.int .i64 (wb sb)) := mb6.cell 1
          have k14_2 : (w14.setRow w10s.heap.size #[.int .i64 (wb cb), .int .i64 (wb sb), .int .u64 (wb RR), .slice A14 X.length c14]).cell? ⟨w5.heap.size, 2, none⟩ = some (.int .u64 (wb RR)) := mb6.cell 2
          have k14_3 : (w14.setRow w10s.heap.size #[.int .i64 (wb cb), .int .i64 (wb sb), .int .u64 (wb RR), .slice A14 X.length c14]).cell? ⟨w5.heap.size, 3, none⟩ = some (.slice A6 X.length c6) := mb6.cell 3
          have j14_0 : (w14.setRow w10s.heap.size #[.int .i64 (wb cb), .int .i64 (wb sb), .int .u64 (wb RR), .slice A14 X.length c14]).cell? ⟨w10s.heap.size, 0, none⟩ = some (.int .i64 (wb cb)) := mbr.cell 0
          have j14_1 : (w14.setRow w10s.heap.size #[.int .i64 (wb cb), .int .i64 (wb sb), .int .u64 (wb RR), .slice A14 X.length c14]).cell? ⟨w10s.heap.size, 1, none⟩ = some (.int .i64 (wb sb)) := mbr.cell 1
          have j14_2 : (w14.setRow w10s.heap.size #[.int .i64 (wb cb), .int .i64 (wb sb), .int .u64 (wb RR), .slice A14 X.length c14]).cell? ⟨w10s.heap.size, 2, none⟩ = some (.int .u64 (wb RR)) := mbr.cell 2
          have j14_3 : (w14.setRow w10s.heap.size #[.int .i64 (wb cb), .int .i64 (wb sb), .int .u64 (wb RR), .slice A14 X.length c14]).cell? ⟨w10s.heap.size, 3, none⟩ = some (.slice A14 X.length c14) := mbr.cell 3
          clear mb6 mbr
          have HEQ := Lib.hid (bytesEqual_v aE ⟨A14, c14, rfl, hc14, hr2⟩)
          rw [HLL.out] at HEQ
          clear aE hr2
          go_wp2_with (first | (refine wpList_store_row rfl 59 _ _ rfl _ _ rfl rfl 59 _ mb11 (by exact gsize_down) (by simp) (by simp [Value.oneCell']) ?_; generalize w14.setRow w10s.heap.size #[.int .i64 (wb cb), .int .i64 (wb sb), .int .u64 (wb RR), .slice A14 X.length c14] = w14s at *; clear mb11 hx; have hx := hx2; clear hx2) | fail)
          refine HEQ.out.mono ?_
          rintro e w' ⟨rfl, rfl⟩
          go_wp2_with (first | fail)
          go_ret
          exact ⟨rfl, (FB.out _ hx).2.2.2.2.2⟩
    | true =>
      rw [hp] at HU
      have e1 : C4 = wb cb := by rw [HCB.out]; exact HU.out.1
      have e2 : S4 = wb sb := by rw [HSB.out]; exact HU.out.2.1
      have e3 : RR = R4 := by rw [HRR.out]; exact HU.out.2.2.1.symm
      have e4 : X = L4 := ((show L4 = d.drop 11 from HU.out.2.2.2.1).trans HX.out.symm).symm
      have e5 : E4 = 0 := HU.out.2.2.2.2
      subst e1 e2 e3 e4 e5
      have mb4 := (FB.out _ hx2).2.1
      have aE := (FB.out _ hx2).2.2.1
      have k10_0 : (w10.setRow w8.heap.size #[.int .i64 (wb cb), .int .i64 (wb sb), .int .u64 (wb RR), .slice A10 X.length c10]).cell? ⟨w3.heap.size, 0, none⟩ = some (.int .i64 (wb cb)) := mb4.cell 0
      have k10_1 : (w10.setRow w8.heap.size #[.int .i64 (wb cb), .int .i64 (wb sb), .int .u64 (wb RR), .slice A10 X.length c10]).cell? ⟨w3.heap.size, 1, none⟩ = some (.int .i64 (wb sb)) := mb4.cell 1
      have k10_2 : (w10.setRow w8.heap.size #[.int .i64 (wb cb), .int .i64 (wb sb), .int .u64 (wb RR), .slice A10 X.length c10]).cell? ⟨w3.heap.size, 2, none⟩ = some (.int .u64 (wb RR)) := mb4.cell 2
      have k10_3 : (w10.setRow w8.heap.size #[.int .i64 (wb cb), .int .i64 (wb sb), .int .u64 (wb RR), .slice A10 X.length c10]).cell? ⟨w3.heap.size, 3, none⟩ = some (.slice A4 X.length c4) := mb4.cell 3
      have j10_0 : (w10.setRow w8.heap.size #[.int .i64 (wb cb), .int .i64 (wb sb), .int .u64 (wb RR), .slice A10 X.length c10]).cell? ⟨w8.heap.size, 0, none⟩ = some (.int .i64 (wb cb)) := mbr.cell 0
      have j10_1 : (w10.setRow w8.heap.size #[.int .i64 (wb cb), .int .i64 (wb sb), .int .u64 (wb RR), .slice A10 X.length c10]).cell? ⟨w8.heap.size, 1, none⟩ = some (.int .i64 (wb sb)) := mbr.cell 1
      have j10_2 : (w10.setRow w8.heap.size #[.int .i64 (wb cb), .int .i64 (wb sb), .int .u64 (wb RR), .slice A10 X.length c10]).cell? ⟨w8.heap.size, 2, none⟩ = some (.int .u64 (wb RR)) := mbr.cell 2
      have j10_3 : (w10.setRow w8.heap.size #[.int .i64 (wb cb), .int .i64 (wb sb), .int .u64 (wb RR), .slice A10 X.length c10]).cell? ⟨w8.heap.size, 3, none⟩ = some (.slice A10 X.length c10) := mbr.cell 3
      clear mb4 mbr
      have HEQ := Lib.hid (bytesEqual_v aE ⟨A10, c10, rfl, hc10, hr2⟩)
      rw [HLL.out] at HEQ
      clear aE hr2
      go_wp2_with (first | (refine wpList_store_row rfl 57 _ _ rfl _ _ rfl rfl 57 _ mb8 (by exact gsize_up) (by simp) (by simp [Value.oneCell']) ?_; generalize w10.setRow w8.heap.size #[.int .i64 (wb cb), .int .i64 (wb sb), .int .u64 (wb RR), .slice A10 X.length c10] = w10s at *; clear mb8 hx; have hx := hx2; clear hx2) | fail)
      refine HEQ.out.mono ?_
      rintro e w' ⟨rfl, rfl⟩
      have hy := hx.trans (((Below.refl w10s.heap.size w10s).alloc (Nat.le_refl _) (.cells #[.int .i64 0, .int .i64 0, .int .u64 0, .slice none 0 0] 59)).mono hx.size)
      have mb11 := Blk.new w10s #[.int .i64 0, .int .i64 0, .int .u64 0, .slice none 0 0] 59
      have HG11 := Lib.hid hx.size
      go_wp2_with (first | (refine wpList_store_last rfl 59 _ _ rfl _ _ #[.int .i64 0, .int .i64 0, .int .u64 0, .slice none 0 0] 59 rfl rfl rfl (by exact gsize_down) (by simp) (by simp [Value.oneCell']) ?_; generalize w10s.alloc (.cells #[.int .i64 0, .int .i64 0, .int .u64 0, .slice none 0 0] 59) = w15d at *) | fail)
      replace hx := hy
      clear hy
      refine (HRY.out w15d).mono ?_
      rintro e w' ⟨⟨h, rfl, h0, h1⟩, rfl⟩
      rw [HSR.out] at h1
      cases hz : szReply d.length with
      | false =>
        rw [hz] at h1 HV
        have hh : ¬ (0 < h) := of_decide_eq_false h1
        clear h1
        have e1 : C6 = 0 := HV.out.1
        have e2 : S6 = 0 := HV.out.2.1
        have e3 : R6 = 0 := HV.out.2.2.1
        have e4 : L6 = [] := HV.out.2.2.2.1
        have e5 : E6 = 240 := HV.out.2.2.2.2
        subst e1 e2 e3 e4 e5
        have mb6 := (FB.out w15d hx).2.2.2.1
        have k16_0 : w15d.cell? ⟨w5.heap.size, 0, none⟩ = some (.int .i64 0) := mb6.cell 0
        have k16_1 : w15d.cell? ⟨w5.heap.size, 1, none⟩ = some (.int .i64 0) := mb6.cell 1
        have k16_2 : w15d.cell? ⟨w5.heap.size, 2, none⟩ = some (.int .u64 0) := mb6.cell 2
        have k16_3 : w15d.cell? ⟨w5.heap.size, 3, none⟩ = some (.slice A6 0 c6) := mb6.cell 3
        clear mb6
        go_wp2_with (first | fail)
        go_ret
        exact ⟨rfl, (FB.out _ hx).2.2.2.2.2⟩
      | true =>
        rw [hz] at h1 HV
        have hh : 0 < h := of_decide_eq_true h1
        clear h1
        go_wp2_with fail
        refine (rgetdown_any d _ w15d (FB.out _ hx).1 HM.out (by have := len_down hz; omega)).mono ?_
        rintro e w16 ⟨v16, rfl, a16, hn⟩
        rw [← HCB.out, ← HSB.out, ← HRR.out]
        rw [← HX.out] at a16
        obtain ⟨A16, c16, rfl, hc16, hr16⟩ := id a16
        have hn0 := mb11.lt
        replace mb11 := mb11.below hn mb11.lt
        have hne := rd_ne hr16 (by rw [HXL.out]; have := len_down hz; omega) mb11
        replace hx := hx.trans (hn.mono hx.size)
        clear hn a16 hn0
        have hub := (Upd.refl w10s.heap.size w16).setRow #[.int .i64 (wb cb), .int .i64 (wb sb), .int .u64 (wb RR), .slice A16 X.length c16]
        have mbr := mb11.row #[.int .i64 (wb cb), .int .i64 (wb sb), .int .u64 (wb RR), .slice A16 X.length c16]
        have hr2 := hr16.upd hub hne
        have hx2 := below_setRow hx (show w8.heap.size ≤ w10s.heap.size by have := HG11.out; omega) #[.int .i64 (wb cb), .int .i64 (wb sb), .int .u64 (wb RR), .slice A16 X.length c16]
        clear hub hr16 hne
        cases hp : pkOk 3 d with
        | false =>
          rw [hp] at HV
          have e1 : C6 = 0 := HV.out.1
          have e2 : S6 = 0 := HV.out.2.1
          have e3 : R6 = 0 := HV.out.2.2.1
          have e4 : L6 = [] := HV.out.2.2.2.1
          have e5 : E6 = 241 := HV.out.2.2.2.2
          subst e1 e2 e3 e4 e5
          have mb6 := (FB.out _ hx2).2.2.2.1
          have k16_0 : (w16.setRow w10s.heap.size #[.int .i64 (wb cb), .int .i64 (wb sb), .int .u64 (wb RR), .slice A16 X.length c16]).cell? ⟨w5.heap.size, 0, none⟩ = some (.int .i64 0) := mb6.cell 0
          have k16_1 : (w16.setRow w10s.heap.size #[.int .i64 (wb cb), .int .i64 (wb sb), .int .u64 (wb RR), .slice A16 X.length c16]).cell? ⟨w5.heap.size, 1, none⟩ = some (.int .i64 0) := mb6.cell 1
          have k16_2 : (w16.setRow w10s.heap.size #[.int .i64 (wb cb), .int .i64 (wb sb), .int .u64 (wb RR), .slice A16 X.length c16]).cell? ⟨w5.heap.size, 2, none⟩ = some (.int .u64 0) := mb6.cell 2
          have k16_3 : (w16.setRow w10s.heap.size #[.int .i64 (wb cb), .int .i64 (wb sb), .int .u64 (wb RR), .slice A16 X.length c16]).cell? ⟨w5.heap.size, 3, none⟩ = some (.slice A6 0 c6) := mb6.cell 3
          clear mb6 mbr hr2
          go_wp2_with (first | (refine wpList_store_row rfl 59 _ _ rfl _ _ rfl rfl 59 _ mb11 (by exact gsize_down) (by simp) (by simp [Value.oneCell']) ?_; generalize w16.setRow w10s.heap.size #[.int .i64 (wb cb), .int .i64 (wb sb), .int .u64 (wb RR), .slice A16 X.length c16] = w16s at *; clear mb11 hx; have hx := hx2; clear hx2) | fail)
          go_ret
          exact ⟨rfl, (FB.out _ hx).2.2.2.2.2⟩
        | true =>
          rw [hp] at HV
          have e1 : C6 = wb cb := by rw [HCB.out]; exact HV.out.1
          have e2 : S6 = wb sb := by rw [HSB.out]; exact HV.out.2.1
          have e3 : RR = R6 := by rw [HRR.out]; exact HV.out.2.2.1.symm
          have e4 : X = L6 := ((show L6 = d.drop 11 from HV.out.2.2.2.1).trans HX.out.symm).symm
          have e5 : E6 = 0 := HV.out.2.2.2.2
          subst e1 e2 e3 e4 e5
          have mb6 := (FB.out _ hx2).2.2.2.1
          have aE := (FB.out _ hx2).2.2.2.2.1
          have k16_0 : (w16.setRow w10s.heap.size #[.int .i64 (wb cb), .int .i64 (wb sb), .int .u64 (wb RR), .slice A16 X.length c16]).cell? ⟨w5.heap.size, 0, none⟩ = some (.int .i64 (wb cb)) := mb6.cell 0
          have k16_1 : (w16.setRow w10s.heap.size #[.int .i64 (wb cb), .int .i64 (wb sb), .int .u64 (wb RR), .slice A16 X.length c16]).cell? ⟨w5.heap.size, 1, none⟩ = some (.int .i64 (wb sb)) := mb6.cell 1
          have k16_2 : (w16.setRow w10s.heap.size #[.int .i64 (wb cb), .int .i64 (wb sb), .int .u64 (wb RR), .slice A16 X.length c16]).cell? ⟨w5.heap.size, 2, none⟩ = some (.int .u64 (wb RR)) := mb6.cell 2
          have k16_3 : (w16.setRow w10s.heap.size #[.int .i64 (wb cb), .int .i64 (wb sb), .int .u64 (wb RR), .slice A16 X.length c16]).cell? ⟨w5.heap.size, 3, none⟩ = some (.slice A6 X.length c6) := mb6.cell 3
          have j16_0 : (w16.setRow w10s.heap.size #[.int .i64 (wb cb), .int .i64 (wb sb), .int .u64 (wb RR), .slice A16 X.length c16]).cell? ⟨w10s.heap.size, 0, none⟩ = some (.int .i64 (wb cb)) := mbr.cell 0
          have j16_1 : (w16.setRow w10s.heap.size #[.int .i64 (wb cb), .int .i64 (wb sb), .int .u64 (wb RR), .slice A16 X.length c16]).cell? ⟨w10s.heap.size, 1, none⟩ = some (.int .i64 (wb sb)) := mbr.cell 1
          have j16_2 : (w16.setRow w10s.heap.size #[.int .i64 (wb cb), .int .i64 (wb sb), .int .u64 (wb RR), .slice A16 X.length c16]).cell? ⟨w10s.heap.size, 2, none⟩ = some (.int .u64 (wb RR)) := mbr.cell 2
          have j16_3 : (w16.setRow w10s.heap.size #[.int .i64 (wb cb), .int .i64 (wb sb), .int .u64 (wb RR), .slice A16 X.length c16]).cell? ⟨w10s.heap.size, 3, none⟩ = some (.slice A16 X.length c16) := mbr.cell 3
          clear mb6 mbr
          have HEQ := Lib.hid (bytesEqual_v aE ⟨A16, c16, rfl, hc16, hr2⟩)
          rw [HLL.out] at HEQ
          clear aE hr2
          go_wp2_with (first | (refine wpList_store_row rfl 59 _ _ rfl _ _ rfl rfl 59 _ mb11 (by exact gsize_down) (by simp) (by simp [Value.oneCell']) ?_; generalize w16.setRow w10s.heap.size #[.int .i64 (wb cb), .int .i64 (wb sb), .int .u64 (wb RR), .slice A16 X.length c16] = w16s at *; clear mb11 hx; have hx := hx2; clear hx2) | fail)
          refine HEQ.out.mono ?_
          rintro e w' ⟨rfl, rfl⟩
          go_wp2_with (first | fail)
          go_ret
          exact ⟨rfl, (FB.out _ hx).2.2.2.2.2⟩
end Go.Proofs.Ytjnbgoiaocpcjaa
