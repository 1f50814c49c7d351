/- What is got of bytes is put as these bytes, and no bytes are of two kinds (printed by genthere.py). -/
import Derived.Test.YtjnbgoiaocpcjaaFrThereQ
import Derived.Test.YtjnbgoiaocpcjaaRoomCut
import Derived.Test.YtjnbgoiaocpcjaaWakes
namespace Go.Proofs.Ytjnbgoiaocpcjaa
open Go.RowKit
set_option linter.unusedVariables false
set_option linter.unusedSimpArgs false
set_option maxRecDepth 100000 in
set_option maxHeartbeats 8000000 in
theorem there_a (d : List (BitVec 8)) (b : List (BitVec 8)) (A : Option Addr) (cap : Nat) (w : World) (hR : Rd w .u8 A b) (hcap : b.length ≤ cap) (hd : d = b.take 1000) (hc : annOk d = true) :
    Calls Try.prog 10 #[.slice A b.length cap] w fun e w' => e = .returned (.bool true) ∧ Below w.heap.size w w' := by
  have HB := Lib.hid (arg_mk hR hcap)
  have hdl : d.length ≤ 1000 := by rw [hd, List.length_take]; omega
  have HD := Lib.hid hd
  have HM : Hid (d.length ≤ 1048576) := by show _ ≤ _; omega
  have HML : Hid (d.length ≤ 140737488355328) := by show _ ≤ _; omega
  have HDD : Hid ((d == d) = true) := by show _ = _; simp
  have hap := (kinds_apart d).1 hc
  have hc1 : annOk d = true := hc
  have hc2 : upOk d = false := by unfold upOk; rw [hap.1]; rfl
  have hc3 : downOk d = false := by unfold downOk; rw [hap.2.1]; rfl
  have hn114 : d.length ≠ 114 := hap.2.2
  have HK : Hid (kindB d = 1) := by show _ = _; unfold kindB; simp [hc1, hc2, hc3]
  have HEA : Hid ((annE d == 0) = true) := by show _ = _; rw [annE_ok, hc1]
  have HEU : Hid ((pkE (szOnion d.length) (pkOk 2 d) == 0) = false) := by show _ = _; rw [pkE_ok]; exact hc2
  have HED : Hid ((pkE (szReply d.length) (pkOk 3 d) == 0) = false) := by show _ = _; rw [pkE_ok]; exact hc3
  obtain ⟨q1, q2, q3⟩ := ann_back d hc
  have Q1 := Lib.hid q1
  have Q2 := Lib.hid q2
  have Q3 := Lib.hid q3
  have Q4 : Hid (annN d ≤ 1099511627776) := by show _ ≤ _; unfold rightA at q1; simp at q1; omega
  clear q1 q2 q3
  have HEG : Hid (∀ wx A0 c0, Arg wx (.slice A0 d.length c0) d → Calls Try.prog 38 #[.slice A0 d.length c0] wx fun e w' => (∃ E : Int, e = .returned (.tuple #[.agg env0.toArray, .int .i64 E]) ∧ (E == 0) = false) ∧ Below wx.heap.size wx w') := fun wx A0 c0 h => by
    obtain ⟨A, cap, he, h1, h2⟩ := h
    cases he
    refine (getEnvelope_any d A0 c0 wx h2 h1 HML.out).mono ?_
    rintro e w' ⟨h, hn⟩
    refine ⟨?_, hn⟩
    rw [if_neg hn114] at h
    exact ⟨240, h, rfl⟩
  have HL8 := Lib.hid env0_length
  have HO8 : Hid (env0.toArray.all (·.oneCell') = true) := envL_one 0 0 0 z105
  generalize env0 = M8 at *
  clear hR hcap hd hdl hc hap hc1 hc2 hc3 hn114
  have HGA := Lib.hid (fun wx v (h : Arg wx v d) => getann_any d v wx h HM.out)
  have HGU := Lib.hid (fun wx v (h : Arg wx v d) => getup_any d v wx h HM.out)
  have HGD := Lib.hid (fun wx v (h : Arg wx v d) => getdown_any d v wx h HM.out)
  unfold UpGot at HGU HGD
  generalize annR d = R1 at *
  generalize annN d = n1 at *
  generalize annL d = l1 at *
  generalize annE d = E1 at *
  generalize pkC (szOnion d.length && pkOk 2 d) d = C2 at *
  generalize pkS (szOnion d.length && pkOk 2 d) d = S2 at *
  generalize pkR (szOnion d.length && pkOk 2 d) d = R2 at *
  generalize pkL (szOnion d.length && pkOk 2 d) d = L2 at *
  generalize pkE (szOnion d.length) (pkOk 2 d) = E2 at *
  generalize pkC (szReply d.length && pkOk 3 d) d = C3 at *
  generalize pkS (szReply d.length && pkOk 3 d) d = S3 at *
  generalize pkR (szReply d.length && pkOk 3 d) d = R3 at *
  generalize pkL (szReply d.length && pkOk 3 d) d = L3 at *
  generalize pkE (szReply d.length) (pkOk 3 d) = E3 at *
  have hE1 := HEA.out
  have hE2 := HEU.out
  have hE3 := HED.out
  go_enter Try.func10, Try.ntmps10
  go_wp2_with fail
  refine (wakes_any w).mono ?_
  rintro e w1 ⟨rfl, hw⟩
  go_wp2_with fail
  refine (cut_v (HB.out.below hw)).mono ?_
  rintro e w' ⟨u0, rfl, a0, rfl⟩
  rw [← HD.out] at a0
  obtain ⟨A0, c0, rfl, -, -⟩ := id a0
  go_wp2_with fail
  refine (HGA.out _ _ a0).mono ?_
  rintro e w2 ⟨v1, rfl, o1, hn⟩
  replace a0 := a0.below hn
  replace hw := hw.trans (hn.mono hw.size)
  obtain ⟨A1, c1, rfl⟩ := id o1.form
  have hn := (Below.refl w2.heap.size w2).alloc (Nat.le_refl _) (.cells #[.int .u64 (wb R1), .slice A1 n1 c1] 78)
  have mb1 := Blk.new w2 #[.int .u64 (wb R1), .slice A1 n1 c1] 78
  replace a0 := a0.below hn
  replace hw := hw.trans (hn.mono hw.size)
  replace o1 := o1.below hn
  clear hn
  go_wp2_with (first | (refine wpList_store_last rfl 78 _ _ rfl _ _ #[.int .u64 (wb R1), .slice A1 n1 c1] 78 rfl rfl rfl (by exact size_ann) (by simp) (by simp [Value.oneCell']) ?_; generalize w2.alloc (.cells #[.int .u64 (wb R1), .slice A1 n1 c1] 78) = w3 at *) | (refine wpList_load_row rfl 78 _ rfl _ rfl 78 #[.int .u64 (wb R1), .slice A1 n1 c1] _ _ mb1 Try.underlying78 rfl (by exact size_ann) ?_) | fail)
  refine (putann_any R1 n1 _ l1 _ (o1.argK Q3.out) Q4.out).mono ?_
  rintro e w4 ⟨h1, hn⟩
  rw [if_pos Q1.out] at h1
  obtain ⟨v4, rfl, o4⟩ := h1
  rw [Q2.out] at o4
  have p4 := o4.arg
  replace a0 := a0.below hn
  replace hw := hw.trans (hn.mono hw.size)
  clear o1 o4 mb1 hn
  go_wp2_with fail
  refine (bytesEqual_v a0 p4).mono ?_
  rintro e w' ⟨rfl, rfl⟩
  rw [HDD.out]
  clear p4
  go_wp2_with fail
  refine (kind_any d _ _ a0 HM.out).mono ?_
  rintro e wk ⟨rfl, hn⟩
  rw [HK.out]
  replace a0 := a0.below hn
  replace hw := hw.trans (hn.mono hw.size)
  clear hn
  go_wp2_with fail
  refine (HGU.out _ _ a0).mono ?_
  rintro e x2 ⟨v2, rfl, o2, hn⟩
  replace a0 := a0.below hn
  replace hw := hw.trans (hn.mono hw.size)
  have p2 := o2.arg
  obtain ⟨A2, c2, rfl, -, -⟩ := id p2
  have hn := (Below.refl x2.heap.size x2).alloc (Nat.le_refl _) (.cells #[.int .i64 C2, .int .i64 S2, .int .u64 (wb R2), .slice A2 L2.length c2] 57)
  have mb2 := Blk.new x2 #[.int .i64 C2, .int .i64 S2, .int .u64 (wb R2), .slice A2 L2.length c2] 57
  replace a0 := a0.below hn
  replace hw := hw.trans (hn.mono hw.size)
  replace p2 := p2.below hn
  clear hn o2
  go_wp2_with (first | (refine wpList_store_last rfl 57 _ _ rfl _ _ #[.int .i64 C2, .int .i64 S2, .int .u64 (wb R2), .slice A2 L2.length c2] 57 rfl rfl rfl (by exact gsize_up) (by simp) (by simp [Value.oneCell']) ?_; generalize x2.alloc (.cells #[.int .i64 C2, .int .i64 S2, .int .u64 (wb R2), .slice A2 L2.length c2] 57) = y2 at *) | (refine wpList_load_row rfl 57 _ rfl _ rfl 57 #[.int .i64 C2, .int .i64 S2, .int .u64 (wb R2), .slice A2 L2.length c2] _ _ mb2 Try.underlying57 rfl (by exact gsize_up) ?_) | fail)
  clear p2 mb2
  refine (HGD.out _ _ a0).mono ?_
  rintro e x3 ⟨v3, rfl, o3, hn⟩
  replace a0 := a0.below hn
  replace hw := hw.trans (hn.mono hw.size)
  have p3 := o3.arg
  obtain ⟨A3, c3, rfl, -, -⟩ := id p3
  have hn := (Below.refl x3.heap.size x3).alloc (Nat.le_refl _) (.cells #[.int .i64 C3, .int .i64 S3, .int .u64 (wb R3), .slice A3 L3.length c3] 59)
  have mb3 := Blk.new x3 #[.int .i64 C3, .int .i64 S3, .int .u64 (wb R3), .slice A3 L3.length c3] 59
  replace a0 := a0.below hn
  replace hw := hw.trans (hn.mono hw.size)
  replace p3 := p3.below hn
  clear hn o3
  go_wp2_with (first | (refine wpList_store_last rfl 59 _ _ rfl _ _ #[.int .i64 C3, .int .i64 S3, .int .u64 (wb R3), .slice A3 L3.length c3] 59 rfl rfl rfl (by exact gsize_down) (by simp) (by simp [Value.oneCell']) ?_; generalize x3.alloc (.cells #[.int .i64 C3, .int .i64 S3, .int .u64 (wb R3), .slice A3 L3.length c3] 59) = y3 at *) | (refine wpList_load_row rfl 59 _ rfl _ rfl 59 #[.int .i64 C3, .int .i64 S3, .int .u64 (wb R3), .slice A3 L3.length c3] _ _ mb3 Try.underlying59 rfl (by exact gsize_down) ?_) | fail)
  clear p3 mb3
  refine (HEG.out _ _ _ a0).mono ?_
  rintro e x8 ⟨⟨E8, rfl, hE8⟩, hn⟩
  replace a0 := a0.below hn
  replace hw := hw.trans (hn.mono hw.size)
  have hn := (Below.refl x8.heap.size x8).alloc (Nat.le_refl _) (.cells M8.toArray 68)
  have mb8 := Blk.new x8 M8.toArray 68
  replace a0 := a0.below hn
  replace hw := hw.trans (hn.mono hw.size)
  clear hn
  go_wp2_with (first | (refine wpList_store_last rfl 68 _ _ rfl _ _ M8.toArray 68 rfl rfl rfl (by rw [List.size_toArray, HL8.out]; exact sizeEnv) (by show _ = M8.length; rw [HL8.out]; rfl) HO8.out ?_; generalize x8.alloc (.cells M8.toArray 68) = y8 at *) | (refine wpList_load_row rfl 68 _ rfl _ rfl 68 M8.toArray _ _ mb8 Try.underlying68 rfl (by rw [List.size_toArray, HL8.out]; exact sizeEnv) ?_) | fail)
  refine (kind_any d _ _ a0 HM.out).mono ?_
  rintro e wk ⟨rfl, hn⟩
  rw [HK.out]
  replace a0 := a0.below hn
  replace hw := hw.trans (hn.mono hw.size)
  clear hn
  go_wp2_with fail
  go_ret
  exact ⟨rfl, hw⟩
set_option maxRecDepth 100000 in
set_option maxHeartbeats 8000000 in
theorem there_u (d : List (BitVec 8)) (b : List (BitVec 8)) (A : Option Addr) (cap : Nat) (w : World) (hR : Rd w .u8 A b) (hcap : b.length ≤ cap) (hd : d = b.take 1000) (hc : upOk d = true) :
    Calls Try.prog 10 #[.slice A b.length cap] w fun e w' => e = .returned (.bool true) ∧ Below w.heap.size w w' := by
  have HB := Lib.hid (arg_mk hR hcap)
  have hdl : d.length ≤ 1000 := by rw [hd, List.length_take]; omega
  have HD := Lib.hid hd
  have HM : Hid (d.length ≤ 1048576) := by show _ ≤ _; omega
  have HML : Hid (d.length ≤ 140737488355328) := by show _ ≤ _; omega
  have HDD : Hid ((d == d) = true) := by show _ = _; simp
  have hc2 : upOk d = true := hc
  unfold upOk at hc
  rw [Bool.and_eq_true] at hc
  have hap := (kinds_apart d).2.1 hc.1
  have hc1 : annOk d = false := hap.1
  have hc3 : downOk d = false := by unfold downOk; rw [hap.2.1]; rfl
  have hn114 : d.length ≠ 114 := hap.2.2
  have HK : Hid (kindB d = 2) := by show _ = _; unfold kindB; simp [hc1, hc2, hc3]
  have HEA : Hid ((annE d == 0) = false) := by show _ = _; rw [annE_ok, hc1]
  have HEU : Hid ((pkE (szOnion d.length) (pkOk 2 d) == 0) = true) := by show _ = _; rw [pkE_ok]; exact hc2
  have HED : Hid ((pkE (szReply d.length) (pkOk 3 d) == 0) = false) := by show _ = _; rw [pkE_ok]; exact hc3
  have hlen : 11 ≤ d.length := by have := hc.1; unfold szOnion onionB at this; simp at this; omega
  have Q2 : Hid (packB 2 (pkC (szOnion d.length && pkOk 2 d) d) (pkS (szOnion d.length && pkOk 2 d) d) (pkR (szOnion d.length && pkOk 2 d) d) (pkL (szOnion d.length && pkOk 2 d) d) = d) := by
    show _ = _
    rw [hc.1, hc.2]
    exact pk_back 2 d hlen hc.2
  have Q1 : Hid ((endsB (pkC (szOnion d.length && pkOk 2 d) d) (pkS (szOnion d.length && pkOk 2 d) d) (pkR (szOnion d.length && pkOk 2 d) d) && onionB (pkL (szOnion d.length && pkOk 2 d) d).length) = true) := by
    show _ = _
    have h1 := hc.1
    have h2 := hc.2
    rw [h1, h2]
    have h3 : endsB (wb (d.getD 1 0)) (wb (d.getD 2 0)) (get64 (d.drop 3)) = true := by unfold pkOk at h2; rw [Bool.and_eq_true] at h2; exact h2.2
    have h4 : onionB ((d.drop 11).length : Int) = true := by
      unfold szOnion at h1
      rw [List.length_drop, show ((d.length - 11 : Nat) : Int) = (d.length : Int) - 11 by omega]
      exact h1
    show (endsB (wb (d.getD 1 0)) (wb (d.getD 2 0)) (get64 (d.drop 3)) && onionB ((d.drop 11).length : Int)) = true
    rw [h3, h4]
    rfl
  have Q3 : Hid ((pkL (szOnion d.length && pkOk 2 d) d).length ≤ 1048576) := by
    show _ ≤ _
    rw [hc.1, hc.2]
    show (d.drop 11).length ≤ _
    rw [List.length_drop]
    omega
  have HEG : Hid (∀ wx A0 c0, Arg wx (.slice A0 d.length c0) d → Calls Try.prog 38 #[.slice A0 d.length c0] wx fun e w' => (∃ E : Int, e = .returned (.tuple #[.agg env0.toArray, .int .i64 E]) ∧ (E == 0) = false) ∧ Below wx.heap.size wx w') := fun wx A0 c0 h => by
    obtain ⟨A, cap, he, h1, h2⟩ := h
    cases he
    refine (getEnvelope_any d A0 c0 wx h2 h1 HML.out).mono ?_
    rintro e w' ⟨h, hn⟩
    refine ⟨?_, hn⟩
    rw [if_neg hn114] at h
    exact ⟨240, h, rfl⟩
  have HL8 := Lib.hid env0_length
  have HO8 : Hid (env0.toArray.all (·.oneCell') = true) := envL_one 0 0 0 z105
  generalize env0 = M8 at *
  clear hR hcap hd hdl hc hap hc1 hc2 hc3 hn114 hlen
  have HGA := Lib.hid (fun wx v (h : Arg wx v d) => getann_any d v wx h HM.out)
  have HGU := Lib.hid (fun wx v (h : Arg wx v d) => getup_any d v wx h HM.out)
  have HGD := Lib.hid (fun wx v (h : Arg wx v d) => getdown_any d v wx h HM.out)
  unfold UpGot at HGU HGD
  generalize annR d = R1 at *
  generalize annN d = n1 at *
  generalize annL d = l1 at *
  generalize annE d = E1 at *
  generalize pkC (szOnion d.length && pkOk 2 d) d = C2 at *
  generalize pkS (szOnion d.length && pkOk 2 d) d = S2 at *
  generalize pkR (szOnion d.length && pkOk 2 d) d = R2 at *
  generalize pkL (szOnion d.length && pkOk 2 d) d = L2 at *
  generalize pkE (szOnion d.length) (pkOk 2 d) = E2 at *
  generalize pkC (szReply d.length && pkOk 3 d) d = C3 at *
  generalize pkS (szReply d.length && pkOk 3 d) d = S3 at *
  generalize pkR (szReply d.length && pkOk 3 d) d = R3 at *
  generalize pkL (szReply d.length && pkOk 3 d) d = L3 at *
  generalize pkE (szReply d.length) (pkOk 3 d) = E3 at *
  have hE1 := HEA.out
  have hE2 := HEU.out
  have hE3 := HED.out
  go_enter Try.func10, Try.ntmps10
  go_wp2_with fail
  refine (wakes_any w).mono ?_
  rintro e w1 ⟨rfl, hw⟩
  go_wp2_with fail
  refine (cut_v (HB.out.below hw)).mono ?_
  rintro e w' ⟨u0, rfl, a0, rfl⟩
  rw [← HD.out] at a0
  obtain ⟨A0, c0, rfl, -, -⟩ := id a0
  go_wp2_with fail
  refine (HGA.out _ _ a0).mono ?_
  rintro e w2 ⟨v1, rfl, o1, hn⟩
  replace a0 := a0.below hn
  replace hw := hw.trans (hn.mono hw.size)
  obtain ⟨A1, c1, rfl⟩ := id o1.form
  have hn := (Below.refl w2.heap.size w2).alloc (Nat.le_refl _) (.cells #[.int .u64 (wb R1), .slice A1 n1 c1] 78)
  have mb1 := Blk.new w2 #[.int .u64 (wb R1), .slice A1 n1 c1] 78
  replace a0 := a0.below hn
  replace hw := hw.trans (hn.mono hw.size)
  replace o1 := o1.below hn
  clear hn
  go_wp2_with (first | (refine wpList_store_last rfl 78 _ _ rfl _ _ #[.int .u64 (wb R1), .slice A1 n1 c1] 78 rfl rfl rfl (by exact size_ann) (by simp) (by simp [Value.oneCell']) ?_; generalize w2.alloc (.cells #[.int .u64 (wb R1), .slice A1 n1 c1] 78) = w3 at *) | (refine wpList_load_row rfl 78 _ rfl _ rfl 78 #[.int .u64 (wb R1), .slice A1 n1 c1] _ _ mb1 Try.underlying78 rfl (by exact size_ann) ?_) | fail)
  clear o1 mb1
  refine (HGU.out _ _ a0).mono ?_
  rintro e x2 ⟨v2, rfl, o2, hn⟩
  replace a0 := a0.below hn
  replace hw := hw.trans (hn.mono hw.size)
  have p2 := o2.arg
  obtain ⟨A2, c2, rfl, -, -⟩ := id p2
  have hn := (Below.refl x2.heap.size x2).alloc (Nat.le_refl _) (.cells #[.int .i64 C2, .int .i64 S2, .int .u64 (wb R2), .slice A2 L2.length c2] 57)
  have mb2 := Blk.new x2 #[.int .i64 C2, .int .i64 S2, .int .u64 (wb R2), .slice A2 L2.length c2] 57
  replace a0 := a0.below hn
  replace hw := hw.trans (hn.mono hw.size)
  replace p2 := p2.below hn
  clear hn o2
  go_wp2_with (first | (refine wpList_store_last rfl 57 _ _ rfl _ _ #[.int .i64 C2, .int .i64 S2, .int .u64 (wb R2), .slice A2 L2.length c2] 57 rfl rfl rfl (by exact gsize_up) (by simp) (by simp [Value.oneCell']) ?_; generalize x2.alloc (.cells #[.int .i64 C2, .int .i64 S2, .int .u64 (wb R2), .slice A2 L2.length c2] 57) = y2 at *) | (refine wpList_load_row rfl 57 _ rfl _ rfl 57 #[.int .i64 C2, .int .i64 S2, .int .u64 (wb R2), .slice A2 L2.length c2] _ _ mb2 Try.underlying57 rfl (by exact gsize_up) ?_) | fail)
  refine (putup_any C2 S2 R2 _ L2 _ p2 Q3.out).mono ?_
  rintro e z2 ⟨h1, hn⟩
  rw [if_pos Q1.out] at h1
  obtain ⟨vz, rfl, oz⟩ := h1
  rw [Q2.out] at oz
  have pz := oz.arg
  replace a0 := a0.below hn
  replace hw := hw.trans (hn.mono hw.size)
  clear p2 oz mb2 hn
  go_wp2_with fail
  refine (bytesEqual_v a0 pz).mono ?_
  rintro e w' ⟨rfl, rfl⟩
  rw [HDD.out]
  clear pz
  go_wp2_with fail
  refine (kind_any d _ _ a0 HM.out).mono ?_
  rintro e wk ⟨rfl, hn⟩
  rw [HK.out]
  replace a0 := a0.below hn
  replace hw := hw.trans (hn.mono hw.size)
  clear hn
  go_wp2_with fail
  refine (HGD.out _ _ a0).mono ?_
  rintro e x3 ⟨v3, rfl, o3, hn⟩
  replace a0 := a0.below hn
  replace hw := hw.trans (hn.mono hw.size)
  have p3 := o3.arg
  obtain ⟨A3, c3, rfl, -, -⟩ := id p3
  have hn := (Below.refl x3.heap.size x3).alloc (Nat.le_refl _) (.cells #[.int .i64 C3, .int .i64 S3, .int .u64 (wb R3), .slice A3 L3.length c3] 59)
  have mb3 := Blk.new x3 #[.int .i64 C3, .int .i64 S3, .int .u64 (wb R3), .slice A3 L3.length c3] 59
  replace a0 := a0.below hn
  replace hw := hw.trans (hn.mono hw.size)
  replace p3 := p3.below hn
  clear hn o3
  go_wp2_with (first | (refine wpList_store_last rfl 59 _ _ rfl _ _ #[.int .i64 C3, .int .i64 S3, .int .u64 (wb R3), .slice A3 L3.length c3] 59 rfl rfl rfl (by exact gsize_down) (by simp) (by simp [Value.oneCell']) ?_; generalize x3.alloc (.cells #[.int .i64 C3, .int .i64 S3, .int .u64 (wb R3), .slice A3 L3.length c3] 59) = y3 at *) | (refine wpList_load_row rfl 59 _ rfl _ rfl 59 #[.int .i64 C3, .int .i64 S3, .int .u64 (wb R3), .slice A3 L3.length c3] _ _ mb3 Try.underlying59 rfl (by exact gsize_down) ?_) | fail)
  clear p3 mb3
  refine (HEG.out _ _ _ a0).mono ?_
  rintro e x8 ⟨⟨E8, rfl, hE8⟩, hn⟩
  replace a0 := a0.below hn
  replace hw := hw.trans (hn.mono hw.size)
  have hn := (Below.refl x8.heap.size x8).alloc (Nat.le_refl _) (.cells M8.toArray 68)
  have mb8 := Blk.new x8 M8.toArray 68
  replace a0 := a0.below hn
  replace hw := hw.trans (hn.mono hw.size)
  clear hn
  go_wp2_with (first | (refine wpList_store_last rfl 68 _ _ rfl _ _ M8.toArray 68 rfl rfl rfl (by rw [List.size_toArray, HL8.out]; exact sizeEnv) (by show _ = M8.length; rw [HL8.out]; rfl) HO8.out ?_; generalize x8.alloc (.cells M8.toArray 68) = y8 at *) | (refine wpList_load_row rfl 68 _ rfl _ rfl 68 M8.toArray _ _ mb8 Try.underlying68 rfl (by rw [List.size_toArray, HL8.out]; exact sizeEnv) ?_) | fail)
  refine (kind_any d _ _ a0 HM.out).mono ?_
  rintro e wk ⟨rfl, hn⟩
  rw [HK.out]
  replace a0 := a0.below hn
  replace hw := hw.trans (hn.mono hw.size)
  clear hn
  go_wp2_with fail
  go_ret
  exact ⟨rfl, hw⟩
set_option maxRecDepth 100000 in
set_option maxHeartbeats 8000000 in
theorem there_d (d : List (BitVec 8)) (b : List (BitVec 8)) (A : Option Addr) (cap : Nat) (w : World) (hR : Rd w .u8 A b) (hcap : b.length ≤ cap) (hd : d = b.take 1000) (hc : downOk d = true) :
    Calls Try.prog 10 #[.slice A b.length cap] w fun e w' => e = .returned (.bool true) ∧ Below w.heap.size w w' := by
  have HB := Lib.hid (arg_mk hR hcap)
  have hdl : d.length ≤ 1000 := by rw [hd, List.length_take]; omega
  have HD := Lib.hid hd
  have HM : Hid (d.length ≤ 1048576) := by show _ ≤ _; omega
  have HML : Hid (d.length ≤ 140737488355328) := by show _ ≤ _; omega
  have HDD : Hid ((d == d) = true) := by show _ = _; simp
  have hc3 : downOk d = true := hc
  unfold downOk at hc
  rw [Bool.and_eq_true] at hc
  have hap := (kinds_apart d).2.2 hc.1
  have hc1 : annOk d = false := hap.1
  have hc2 : upOk d = false := by unfold upOk; rw [hap.2.1]; rfl
  have hn114 : d.length ≠ 114 := hap.2.2
  have HK : Hid (kindB d = 3) := by show _ = _; unfold kindB; simp [hc1, hc2, hc3]
  have HEA : Hid ((annE d == 0) = false) := by show _ = _; rw [annE_ok, hc1]
  have HEU : Hid ((pkE (szOnion d.length) (pkOk 2 d) == 0) = false) := by show _ = _; rw [pkE_ok]; exact hc2
  have HED : Hid ((pkE (szReply d.length) (pkOk 3 d) == 0) = true) := by show _ = _; rw [pkE_ok]; exact hc3
  have hlen : 11 ≤ d.length := by have := hc.1; unfold szReply replyB at this; simp at this; omega
  have Q2 : Hid (packB 3 (pkC (szReply d.length && pkOk 3 d) d) (pkS (szReply d.length && pkOk 3 d) d) (pkR (szReply d.length && pkOk 3 d) d) (pkL (szReply d.length && pkOk 3 d) d) = d) := by
    show _ = _
    rw [hc.1, hc.2]
    exact pk_back 3 d hlen hc.2
  have Q1 : Hid ((endsB (pkC (szReply d.length && pkOk 3 d) d) (pkS (szReply d.length && pkOk 3 d) d) (pkR (szReply d.length && pkOk 3 d) d) && replyB (pkL (szReply d.length && pkOk 3 d) d).length) = true) := by
    show _ = _
    have h1 := hc.1
    have h2 := hc.2
    rw [h1, h2]
    have h3 : endsB (wb (d.getD 1 0)) (wb (d.getD 2 0)) (get64 (d.drop 3)) = true := by unfold pkOk at h2; rw [Bool.and_eq_true] at h2; exact h2.2
    have h4 : replyB ((d.drop 11).length : Int) = true := by
      unfold szReply at h1
      rw [List.length_drop, show ((d.length - 11 : Nat) : Int) = (d.length : Int) - 11 by omega]
      exact h1
    show (endsB (wb (d.getD 1 0)) (wb (d.getD 2 0)) (get64 (d.drop 3)) && replyB ((d.drop 11).length : Int)) = true
    rw [h3, h4]
    rfl
  have Q3 : Hid ((pkL (szReply d.length && pkOk 3 d) d).length ≤ 1048576) := by
    show _ ≤ _
    rw [hc.1, hc.2]
    show (d.drop 11).length ≤ _
    rw [List.length_drop]
    omega
  have HEG : Hid (∀ wx A0 c0, Arg wx (.slice A0 d.length c0) d → Calls Try.prog 38 #[.slice A0 d.length c0] wx fun e w' => (∃ E : Int, e = .returned (.tuple #[.agg env0.toArray, .int .i64 E]) ∧ (E == 0) = false) ∧ Below wx.heap.size wx w') := fun wx A0 c0 h => by
    obtain ⟨A, cap, he, h1, h2⟩ := h
    cases he
    refine (getEnvelope_any d A0 c0 wx h2 h1 HML.out).mono ?_
    rintro e w' ⟨h, hn⟩
    refine ⟨?_, hn⟩
    rw [if_neg hn114] at h
    exact ⟨240, h, rfl⟩
  have HL8 := Lib.hid env0_length
  have HO8 : Hid (env0.toArray.all (·.oneCell') = true) := envL_one 0 0 0 z105
  generalize env0 = M8 at *
  clear hR hcap hd hdl hc hap hc1 hc2 hc3 hn114 hlen
  have HGA := Lib.hid (fun wx v (h : Arg wx v d) => getann_any d v wx h HM.out)
  have HGU := Lib.hid (fun wx v (h : Arg wx v d) => getup_any d v wx h HM.out)
  have HGD := Lib.hid (fun wx v (h : Arg wx v d) => getdown_any d v wx h HM.out)
  unfold UpGot at HGU HGD
  generalize annR d = R1 at *
  generalize annN d = n1 at *
  generalize annL d = l1 at *
  generalize annE d = E1 at *
  generalize pkC (szOnion d.length && pkOk 2 d) d = C2 at *
  generalize pkS (szOnion d.length && pkOk 2 d) d = S2 at *
  generalize pkR (szOnion d.length && pkOk 2 d) d = R2 at *
  generalize pkL (szOnion d.length && pkOk 2 d) d = L2 at *
  generalize pkE (szOnion d.length) (pkOk 2 d) = E2 at *
  generalize pkC (szReply d.length && pkOk 3 d) d = C3 at *
  generalize pkS (szReply d.length && pkOk 3 d) d = S3 at *
  generalize pkR (szReply d.length && pkOk 3 d) d = R3 at *
  generalize pkL (szReply d.length && pkOk 3 d) d = L3 at *
  generalize pkE (szReply d.length) (pkOk 3 d) = E3 at *
  have hE1 := HEA.out
  have hE2 := HEU.out
  have hE3 := HED.out
  go_enter Try.func10, Try.ntmps10
  go_wp2_with fail
  refine (wakes_any w).mono ?_
  rintro e w1 ⟨rfl, hw⟩
  go_wp2_with fail
  refine (cut_v (HB.out.below hw)).mono ?_
  rintro e w' ⟨u0, rfl, a0, rfl⟩
  rw [← HD.out] at a0
  obtain ⟨A0, c0, rfl, -, -⟩ := id a0
  go_wp2_with fail
  refine (HGA.out _ _ a0).mono ?_
  rintro e w2 ⟨v1, rfl, o1, hn⟩
  replace a0 := a0.below hn
  replace hw := hw.trans (hn.mono hw.size)
  obtain ⟨A1, c1, rfl⟩ := id o1.form
  have hn := (Below.refl w2.heap.size w2).alloc (Nat.le_refl _) (.cells #[.int .u64 (wb R1), .slice A1 n1 c1] 78)
  have mb1 := Blk.new w2 #[.int .u64 (wb R1), .slice A1 n1 c1] 78
  replace a0 := a0.below hn
  replace hw := hw.trans (hn.mono hw.size)
  replace o1 := o1.below hn
  clear hn
  go_wp2_with (first | (refine wpList_store_last rfl 78 _ _ rfl _ _ #[.int .u64 (wb R1), .slice A1 n1 c1] 78 rfl rfl rfl (by exact size_ann) (by simp) (by simp [Value.oneCell']) ?_; generalize w2.alloc (.cells #[.int .u64 (wb R1), .slice A1 n1 c1] 78) = w3 at *) | (refine wpList_load_row rfl 78 _ rfl _ rfl 78 #[.int .u64 (wb R1), .slice A1 n1 c1] _ _ mb1 Try.underlying78 rfl (by exact size_ann) ?_) | fail)
  clear o1 mb1
  refine (HGU.out _ _ a0).mono ?_
  rintro e x2 ⟨v2, rfl, o2, hn⟩
  replace a0 := a0.below hn
  replace hw := hw.trans (hn.mono hw.size)
  have p2 := o2.arg
  obtain ⟨A2, c2, rfl, -, -⟩ := id p2
  have hn := (Below.refl x2.heap.size x2).alloc (Nat.le_refl _) (.cells #[.int .i64 C2, .int .i64 S2, .int .u64 (wb R2), .slice A2 L2.length c2] 57)
  have mb2 := Blk.new x2 #[.int .i64 C2, .int .i64 S2, .int .u64 (wb R2), .slice A2 L2.length c2] 57
  replace a0 := a0.below hn
  replace hw := hw.trans (hn.mono hw.size)
  replace p2 := p2.below hn
  clear hn o2
  go_wp2_with (first | (refine wpList_store_last rfl 57 _ _ rfl _ _ #[.int .i64 C2, .int .i64 S2, .int .u64 (wb R2), .slice A2 L2.length c2] 57 rfl rfl rfl (by exact gsize_up) (by simp) (by simp [Value.oneCell']) ?_; generalize x2.alloc (.cells #[.int .i64 C2, .int .i64 S2, .int .u64 (wb R2), .slice A2 L2.length c2] 57) = y2 at *) | (refine wpList_load_row rfl 57 _ rfl _ rfl 57 #[.int .i64 C2, .int .i64 S2, .int .u64 (wb R2), .slice A2 L2.length c2] _ _ mb2 Try.underlying57 rfl (by exact gsize_up) ?_) | fail)
  clear p2 mb2
  refine (HGD.out _ _ a0).mono ?_
  rintro e x3 ⟨v3, rfl, o3, hn⟩
  replace a0 := a0.below hn
  replace hw := hw.trans (hn.mono hw.size)
  have p3 := o3.arg
  obtain ⟨A3, c3, rfl, -, -⟩ := id p3
  have hn := (Below.refl x3.heap.size x3).alloc (Nat.le_refl _) (.cells #[.int .i64 C3, .int .i64 S3, .int .u64 (wb R3), .slice A3 L3.length c3] 59)
  have mb3 := Blk.new x3 #[.int .i64 C3, .int .i64 S3, .int .u64 (wb R3), .slice A3 L3.length c3] 59
  replace a0 := a0.below hn
  replace hw := hw.trans (hn.mono hw.size)
  replace p3 := p3.below hn
  clear hn o3
  go_wp2_with (first | (refine wpList_store_last rfl 59 _ _ rfl _ _ #[.int .i64 C3, .int .i64 S3, .int .u64 (wb R3), .slice A3 L3.length c3] 59 rfl rfl rfl (by exact gsize_down) (by simp) (by simp [Value.oneCell']) ?_; generalize x3.alloc (.cells #[.int .i64 C3, .int .i64 S3, .int .u64 (wb R3), .slice A3 L3.length c3] 59) = y3 at *) | (refine wpList_load_row rfl 59 _ rfl _ rfl 59 #[.int .i64 C3, .int .i64 S3, .int .u64 (wb R3), .slice A3 L3.length c3] _ _ mb3 Try.underlying59 rfl (by exact gsize_down) ?_) | fail)
  refine (putdown_any C3 S3 R3 _ L3 _ p3 Q3.out).mono ?_
  rintro e z3 ⟨h1, hn⟩
  rw [if_pos Q1.out] at h1
  obtain ⟨vz, rfl, oz⟩ := h1
  rw [Q2.out] at oz
  have pz := oz.arg
  replace a0 := a0.below hn
  replace hw := hw.trans (hn.mono hw.size)
  clear p3 oz mb3 hn
  go_wp2_with fail
  refine (bytesEqual_v a0 pz).mono ?_
  rintro e w' ⟨rfl, rfl⟩
  rw [HDD.out]
  clear pz
  go_wp2_with fail
  refine (kind_any d _ _ a0 HM.out).mono ?_
  rintro e wk ⟨rfl, hn⟩
  rw [HK.out]
  replace a0 := a0.below hn
  replace hw := hw.trans (hn.mono hw.size)
  clear hn
  go_wp2_with fail
  refine (HEG.out _ _ _ a0).mono ?_
  rintro e x8 ⟨⟨E8, rfl, hE8⟩, hn⟩
  replace a0 := a0.below hn
  replace hw := hw.trans (hn.mono hw.size)
  have hn := (Below.refl x8.heap.size x8).alloc (Nat.le_refl _) (.cells M8.toArray 68)
  have mb8 := Blk.new x8 M8.toArray 68
  replace a0 := a0.below hn
  replace hw := hw.trans (hn.mono hw.size)
  clear hn
  go_wp2_with (first | (refine wpList_store_last rfl 68 _ _ rfl _ _ M8.toArray 68 rfl rfl rfl (by rw [List.size_toArray, HL8.out]; exact sizeEnv) (by show _ = M8.length; rw [HL8.out]; rfl) HO8.out ?_; generalize x8.alloc (.cells M8.toArray 68) = y8 at *) | (refine wpList_load_row rfl 68 _ rfl _ rfl 68 M8.toArray _ _ mb8 Try.underlying68 rfl (by rw [List.size_toArray, HL8.out]; exact sizeEnv) ?_) | fail)
  refine (kind_any d _ _ a0 HM.out).mono ?_
  rintro e wk ⟨rfl, hn⟩
  rw [HK.out]
  replace a0 := a0.below hn
  replace hw := hw.trans (hn.mono hw.size)
  clear hn
  go_wp2_with fail
  go_ret
  exact ⟨rfl, hw⟩
set_option maxRecDepth 100000 in
set_option maxHeartbeats 8000000 in
theorem there_n (d : List (BitVec 8)) (b : List (BitVec 8)) (A : Option Addr) (cap : Nat) (w : World) (hR : Rd w .u8 A b) (hcap : b.length ≤ cap) (hd : d = b.take 1000) (hc1 : annOk d = false) (hc2 : upOk d = false) (hc3 : downOk d = false) (henv : d.length = 114 → mayE (wb (d.getD 0 0)) (num32 d 5) (d.drop 9) = false) :
    Calls Try.prog 10 #[.slice A b.length cap] w fun e w' => e = .returned (.bool true) ∧ Below w.heap.size w w' := by
  have HB := Lib.hid (arg_mk hR hcap)
  have hdl : d.length ≤ 1000 := by rw [hd, List.length_take]; omega
  have HD := Lib.hid hd
  have HM : Hid (d.length ≤ 1048576) := by show _ ≤ _; omega
  have HML : Hid (d.length ≤ 140737488355328) := by show _ ≤ _; omega
  have HDD : Hid ((d == d) = true) := by show _ = _; simp
  skip
  have HK : Hid (kindB d = 0) := by show _ = _; unfold kindB; simp [hc1, hc2, hc3]
  have HEA : Hid ((annE d == 0) = false) := by show _ = _; rw [annE_ok, hc1]
  have HEU : Hid ((pkE (szOnion d.length) (pkOk 2 d) == 0) = false) := by show _ = _; rw [pkE_ok]; exact hc2
  have HED : Hid ((pkE (szReply d.length) (pkOk 3 d) == 0) = false) := by show _ = _; rw [pkE_ok]; exact hc3
  have HEG : Hid (∀ wx A0 c0, Arg wx (.slice A0 d.length c0) d → Calls Try.prog 38 #[.slice A0 d.length c0] wx fun e w' => (∃ E : Int, e = .returned (.tuple #[.agg env0.toArray, .int .i64 E]) ∧ (E == 0) = false) ∧ Below wx.heap.size wx w') := fun wx A0 c0 h => by
    obtain ⟨A, cap, he, h1, h2⟩ := h
    cases he
    refine (getEnvelope_any d A0 c0 wx h2 h1 HML.out).mono ?_
    rintro e w' ⟨h, hn⟩
    refine ⟨?_, hn⟩
    by_cases h114 : d.length = 114
    · rw [if_pos h114, if_neg (by rw [henv h114]; decide)] at h
      exact ⟨241, h, rfl⟩
    · rw [if_neg h114] at h
      exact ⟨240, h, rfl⟩
  have HL8 := Lib.hid env0_length
  have HO8 : Hid (env0.toArray.all (·.oneCell') = true) := envL_one 0 0 0 z105
  generalize env0 = M8 at *
  clear hR hcap hd hdl hc1 hc2 hc3 henv
  have HGA := Lib.hid (fun wx v (h : Arg wx v d) => getann_any d v wx h HM.out)
  have HGU := Lib.hid (fun wx v (h : Arg wx v d) => getup_any d v wx h HM.out)
  have HGD := Lib.hid (fun wx v (h : Arg wx v d) => getdown_any d v wx h HM.out)
  unfold UpGot at HGU HGD
  generalize annR d = R1 at *
  generalize annN d = n1 at *
  generalize annL d = l1 at *
  generalize annE d = E1 at *
  generalize pkC (szOnion d.length && pkOk 2 d) d = C2 at *
  generalize pkS (szOnion d.length && pkOk 2 d) d = S2 at *
  generalize pkR (szOnion d.length && pkOk 2 d) d = R2 at *
  generalize pkL (szOnion d.length && pkOk 2 d) d = L2 at *
  generalize pkE (szOnion d.length) (pkOk 2 d) = E2 at *
  generalize pkC (szReply d.length && pkOk 3 d) d = C3 at *
  generalize pkS (szReply d.length && pkOk 3 d) d = S3 at *
  generalize pkR (szReply d.length && pkOk 3 d) d = R3 at *
  generalize pkL (szReply d.length && pkOk 3 d) d = L3 at *
  generalize pkE (szReply d.length) (pkOk 3 d) = E3 at *
  have hE1 := HEA.out
  have hE2 := HEU.out
  have hE3 := HED.out
  go_enter Try.func10, Try.ntmps10
  go_wp2_with fail
  refine (wakes_any w).mono ?_
  rintro e w1 ⟨rfl, hw⟩
  go_wp2_with fail
  refine (cut_v (HB.out.below hw)).mono ?_
  rintro e w' ⟨u0, rfl, a0, rfl⟩
  rw [← HD.out] at a0
  obtain ⟨A0, c0, rfl, -, -⟩ := id a0
  go_wp2_with fail
  refine (HGA.out _ _ a0).mono ?_
  rintro e w2 ⟨v1, rfl, o1, hn⟩
  replace a0 := a0.below hn
  replace hw := hw.trans (hn.mono hw.size)
  obtain ⟨A1, c1, rfl⟩ := id o1.form
  have hn := (Below.refl w2.heap.size w2).alloc (Nat.le_refl _) (.cells #[.int .u64 (wb R1), .slice A1 n1 c1] 78)
  have mb1 := Blk.new w2 #[.int .u64 (wb R1), .slice A1 n1 c1] 78
  replace a0 := a0.below hn
  replace hw := hw.trans (hn.mono hw.size)
  replace o1 := o1.below hn
  clear hn
  go_wp2_with (first | (refine wpList_store_last rfl 78 _ _ rfl _ _ #[.int .u64 (wb R1), .slice A1 n1 c1] 78 rfl rfl rfl (by exact size_ann) (by simp) (by simp [Value.oneCell']) ?_; generalize w2.alloc (.cells #[.int .u64 (wb R1), .slice A1 n1 c1] 78) = w3 at *) | (refine wpList_load_row rfl 78 _ rfl _ rfl 78 #[.int .u64 (wb R1), .slice A1 n1 c1] _ _ mb1 Try.underlying78 rfl (by exact size_ann) ?_) | fail)
  clear o1 mb1
  refine (HGU.out _ _ a0).mono ?_
  rintro e x2 ⟨v2, rfl, o2, hn⟩
  replace a0 := a0.below hn
  replace hw := hw.trans (hn.mono hw.size)
  have p2 := o2.arg
  obtain ⟨A2, c2, rfl, -, -⟩ := id p2
  have hn := (Below.refl x2.heap.size x2).alloc (Nat.le_refl _) (.cells #[.int .i64 C2, .int .i64 S2, .int .u64 (wb R2), .slice A2 L2.length c2] 57)
  have mb2 := Blk.new x2 #[.int .i64 C2, .int .i64 S2, .int .u64 (wb R2), .slice A2 L2.length c2] 57
  replace a0 := a0.below hn
  replace hw := hw.trans (hn.mono hw.size)
  replace p2 := p2.below hn
  clear hn o2
  go_wp2_with (first | (refine wpList_store_last rfl 57 _ _ rfl _ _ #[.int .i64 C2, .int .i64 S2, .int .u64 (wb R2), .slice A2 L2.length c2] 57 rfl rfl rfl (by exact gsize_up) (by simp) (by simp [Value.oneCell']) ?_; generalize x2.alloc (.cells #[.int .i64 C2, .int .i64 S2, .int .u64 (wb R2), .slice A2 L2.length c2] 57) = y2 at *) | (refine wpList_load_row rfl 57 _ rfl _ rfl 57 #[.int .i64 C2, .int .i64 S2, .int .u64 (wb R2), .slice A2 L2.length c2] _ _ mb2 Try.underlying57 rfl (by exact gsize_up) ?_) | fail)
  clear p2 mb2
  refine (HGD.out _ _ a0).mono ?_
  rintro e x3 ⟨v3, rfl, o3, hn⟩
  replace a0 := a0.below hn
  replace hw := hw.trans (hn.mono hw.size)
  have p3 := o3.arg
  obtain ⟨A3, c3, rfl, -, -⟩ := id p3
  have hn := (Below.refl x3.heap.size x3).alloc (Nat.le_refl _) (.cells #[.int .i64 C3, .int .i64 S3, .int .u64 (wb R3), .slice A3 L3.length c3] 59)
  have mb3 := Blk.new x3 #[.int .i64 C3, .int .i64 S3, .int .u64 (wb R3), .slice A3 L3.length c3] 59
  replace a0 := a0.below hn
  replace hw := hw.trans (hn.mono hw.size)
  replace p3 := p3.below hn
  clear hn o3
  go_wp2_with (first | (refine wpList_store_last rfl 59 _ _ rfl _ _ #[.int .i64 C3, .int .i64 S3, .int .u64 (wb R3), .slice A3 L3.length c3] 59 rfl rfl rfl (by exact gsize_down) (by simp) (by simp [Value.oneCell']) ?_; generalize x3.alloc (.cells #[.int .i64 C3, .int .i64 S3, .int .u64 (wb R3), .slice A3 L3.length c3] 59) = y3 at *) | (refine wpList_load_row rfl 59 _ rfl _ rfl 59 #[.int .i64 C3, .int .i64 S3, .int .u64 (wb R3), .slice A3 L3.length c3] _ _ mb3 Try.underlying59 rfl (by exact gsize_down) ?_) | fail)
  clear p3 mb3
  refine (HEG.out _ _ _ a0).mono ?_
  rintro e x8 ⟨⟨E8, rfl, hE8⟩, hn⟩
  replace a0 := a0.below hn
  replace hw := hw.trans (hn.mono hw.size)
  have hn := (Below.refl x8.heap.size x8).alloc (Nat.le_refl _) (.cells M8.toArray 68)
  have mb8 := Blk.new x8 M8.toArray 68
  replace a0 := a0.below hn
  replace hw := hw.trans (hn.mono hw.size)
  clear hn
  go_wp2_with (first | (refine wpList_store_last rfl 68 _ _ rfl _ _ M8.toArray 68 rfl rfl rfl (by rw [List.size_toArray, HL8.out]; exact sizeEnv) (by show _ = M8.length; rw [HL8.out]; rfl) HO8.out ?_; generalize x8.alloc (.cells M8.toArray 68) = y8 at *) | (refine wpList_load_row rfl 68 _ rfl _ rfl 68 M8.toArray _ _ mb8 Try.underlying68 rfl (by rw [List.size_toArray, HL8.out]; exact sizeEnv) ?_) | fail)
  refine (kind_any d _ _ a0 HM.out).mono ?_
  rintro e wk ⟨rfl, hn⟩
  rw [HK.out]
  replace a0 := a0.below hn
  replace hw := hw.trans (hn.mono hw.size)
  clear hn
  go_wp2_with fail
  go_ret
  exact ⟨rfl, hw⟩
set_option maxRecDepth 100000 in
set_option maxHeartbeats 8000000 in
theorem there_e (d : List (BitVec 8)) (b : List (BitVec 8)) (A : Option Addr) (cap : Nat) (w : World) (hR : Rd w .u8 A b) (hcap : b.length ≤ cap) (hd : d = b.take 1000) (hc1 : annOk d = false) (hc2 : upOk d = false) (hc3 : downOk d = false) (h114 : d.length = 114) (hm : mayE (wb (d.getD 0 0)) (num32 d 5) (d.drop 9) = true) :
    Calls Try.prog 10 #[.slice A b.length cap] w fun e w' => e = .returned (.bool true) ∧ Below w.heap.size w w' := by
  have HB := Lib.hid (arg_mk hR hcap)
  have hdl : d.length ≤ 1000 := by rw [hd, List.length_take]; omega
  have HD := Lib.hid hd
  have HM : Hid (d.length ≤ 1048576) := by show _ ≤ _; omega
  have HML : Hid (d.length ≤ 140737488355328) := by show _ ≤ _; omega
  have HDD : Hid ((d == d) = true) := by show _ = _; simp
  skip
  have HK : Hid (kindB d = 0) := by show _ = _; unfold kindB; simp [hc1, hc2, hc3]
  have HEA : Hid ((annE d == 0) = false) := by show _ = _; rw [annE_ok, hc1]
  have HEU : Hid ((pkE (szOnion d.length) (pkOk 2 d) == 0) = false) := by show _ = _; rw [pkE_ok]; exact hc2
  have HED : Hid ((pkE (szReply d.length) (pkOk 3 d) == 0) = false) := by show _ = _; rw [pkE_ok]; exact hc3
  have hb105 : (d.drop 9).length = 105 := by rw [List.length_drop]; omega
  have HEG : Hid (∀ wx A0 c0, Arg wx (.slice A0 d.length c0) d → Calls Try.prog 38 #[.slice A0 d.length c0] wx fun e w' => e = .returned (.tuple #[.agg (envL (wb (d.getD 0 0)) (num32 d 1) (num32 d 5) (d.drop 9)).toArray, .int .i64 0]) ∧ Below wx.heap.size wx w') := fun wx A0 c0 h => by
    obtain ⟨A, cap, he, h1, h2⟩ := h
    cases he
    refine (getEnvelope_any d A0 c0 wx h2 h1 HML.out).mono ?_
    rintro e w' ⟨h, hn⟩
    rw [if_pos h114, if_pos hm] at h
    exact ⟨h, hn⟩
  have HEP : Hid (∀ wx, Calls Try.prog 35 #[.agg (envL (wb (d.getD 0 0)) (num32 d 1) (num32 d 5) (d.drop 9)).toArray] wx fun e w' => ∃ v, e = .returned (.tuple #[v, .int .i64 0]) ∧ Arg w' v d ∧ Below wx.heap.size wx w') := fun wx => by
    refine (putEnvelope_any (wb (d.getD 0 0)) (num32 d 1) (num32 d 5) (d.drop 9) hb105 wx).mono ?_
    rintro e w' ⟨h, hn⟩
    rw [if_pos hm] at h
    obtain ⟨v, he, ho⟩ := h
    have ha := ho.arg
    rw [env_back d h114] at ha
    exact ⟨v, he, ha, hn⟩
  have HL8 := Lib.hid (envL_length (wb (d.getD 0 0)) (num32 d 1) (num32 d 5) (d.drop 9) hb105)
  have HO8 := Lib.hid (envL_one (wb (d.getD 0 0)) (num32 d 1) (num32 d 5) (d.drop 9))
  generalize envL (wb (d.getD 0 0)) (num32 d 1) (num32 d 5) (d.drop 9) = M8 at *
  clear hR hcap hd hdl hc1 hc2 hc3 h114 hm hb105
  have HGA := Lib.hid (fun wx v (h : Arg wx v d) => getann_any d v wx h HM.out)
  have HGU := Lib.hid (fun wx v (h : Arg wx v d) => getup_any d v wx h HM.out)
  have HGD := Lib.hid (fun wx v (h : Arg wx v d) => getdown_any d v wx h HM.out)
  unfold UpGot at HGU HGD
  generalize annR d = R1 at *
  generalize annN d = n1 at *
  generalize annL d = l1 at *
  generalize annE d = E1 at *
  generalize pkC (szOnion d.length && pkOk 2 d) d = C2 at *
  generalize pkS (szOnion d.length && pkOk 2 d) d = S2 at *
  generalize pkR (szOnion d.length && pkOk 2 d) d = R2 at *
  generalize pkL (szOnion d.length && pkOk 2 d) d = L2 at *
  generalize pkE (szOnion d.length) (pkOk 2 d) = E2 at *
  generalize pkC (szReply d.length && pkOk 3 d) d = C3 at *
  generalize pkS (szReply d.length && pkOk 3 d) d = S3 at *
  generalize pkR (szReply d.length && pkOk 3 d) d = R3 at *
  generalize pkL (szReply d.length && pkOk 3 d) d = L3 at *
  generalize pkE (szReply d.length) (pkOk 3 d) = E3 at *
  have hE1 := HEA.out
  have hE2 := HEU.out
  have hE3 := HED.out
  go_enter Try.func10, Try.ntmps10
  go_wp2_with fail
  refine (wakes_any w).mono ?_
  rintro e w1 ⟨rfl, hw⟩
  go_wp2_with fail
  refine (cut_v (HB.out.below hw)).mono ?_
  rintro e w' ⟨u0, rfl, a0, rfl⟩
  rw [← HD.out] at a0
  obtain ⟨A0, c0, rfl, -, -⟩ := id a0
  go_wp2_with fail
  refine (HGA.out _ _ a0).mono ?_
  rintro e w2 ⟨v1, rfl, o1, hn⟩
  replace a0 := a0.below hn
  replace hw := hw.trans (hn.mono hw.size)
  obtain ⟨A1, c1, rfl⟩ := id o1.form
  have hn := (Below.refl w2.heap.size w2).alloc (Nat.le_refl _) (.cells #[.int .u64 (wb R1), .slice A1 n1 c1] 78)
  have mb1 := Blk.new w2 #[.int .u64 (wb R1), .slice A1 n1 c1] 78
  replace a0 := a0.below hn
  replace hw := hw.trans (hn.mono hw.size)
  replace o1 := o1.below hn
  clear hn
  go_wp2_with (first | (refine wpList_store_last rfl 78 _ _ rfl _ _ #[.int .u64 (wb R1), .slice A1 n1 c1] 78 rfl rfl rfl (by exact size_ann) (by simp) (by simp [Value.oneCell']) ?_; generalize w2.alloc (.cells #[.int .u64 (wb R1), .slice A1 n1 c1] 78) = w3 at *) | (refine wpList_load_row rfl 78 _ rfl _ rfl 78 #[.int .u64 (wb R1), .slice A1 n1 c1] _ _ mb1 Try.underlying78 rfl (by exact size_ann) ?_) | fail)
  clear o1 mb1
  refine (HGU.out _ _ a0).mono ?_
  rintro e x2 ⟨v2, rfl, o2, hn⟩
  replace a0 := a0.below hn
  replace hw := hw.trans (hn.mono hw.size)
  have p2 := o2.arg
  obtain ⟨A2, c2, rfl, -, -⟩ := id p2
  have hn := (Below.refl x2.heap.size x2).alloc (Nat.le_refl _) (.cells #[.int .i64 C2, .int .i64 S2, .int .u64 (wb R2), .slice A2 L2.length c2] 57)
  have mb2 := Blk.new x2 #[.int .i64 C2, .int .i64 S2, .int .u64 (wb R2), .slice A2 L2.length c2] 57
  replace a0 := a0.below hn
  replace hw := hw.trans (hn.mono hw.size)
  replace p2 := p2.below hn
  clear hn o2
  go_wp2_with (first | (refine wpList_store_last rfl 57 _ _ rfl _ _ #[.int .i64 C2, .int .i64 S2, .int .u64 (wb R2), .slice A2 L2.length c2] 57 rfl rfl rfl (by exact gsize_up) (by simp) (by simp [Value.oneCell']) ?_; generalize x2.alloc (.cells #[.int .i64 C2, .int .i64 S2, .int .u64 (wb R2), .slice A2 L2.length c2] 57) = y2 at *) | (refine wpList_load_row rfl 57 _ rfl _ rfl 57 #[.int .i64 C2, .int .i64 S2, .int .u64 (wb R2), .slice A2 L2.length c2] _ _ mb2 Try.underlying57 rfl (by exact gsize_up) ?_) | fail)
  clear p2 mb2
  refine (HGD.out _ _ a0).mono ?_
  rintro e x3 ⟨v3, rfl, o3, hn⟩
  replace a0 := a0.below hn
  replace hw := hw.trans (hn.mono hw.size)
  have p3 := o3.arg
  obtain ⟨A3, c3, rfl, -, -⟩ := id p3
  have hn := (Below.refl x3.heap.size x3).alloc (Nat.le_refl _) (.cells #[.int .i64 C3, .int .i64 S3, .int .u64 (wb R3), .slice A3 L3.length c3] 59)
  have mb3 := Blk.new x3 #[.int .i64 C3, .int .i64 S3, .int .u64 (wb R3), .slice A3 L3.length c3] 59
  replace a0 := a0.below hn
  replace hw := hw.trans (hn.mono hw.size)
  replace p3 := p3.below hn
  clear hn o3
  go_wp2_with (first | (refine wpList_store_last rfl 59 _ _ rfl _ _ #[.int .i64 C3, .int .i64 S3, .int .u64 (wb R3), .slice A3 L3.length c3] 59 rfl rfl rfl (by exact gsize_down) (by simp) (by simp [Value.oneCell']) ?_; generalize x3.alloc (.cells #[.int .i64 C3, .int .i64 S3, .int .u64 (wb R3), .slice A3 L3.length c3] 59) = y3 at *) | (refine wpList_load_row rfl 59 _ rfl _ rfl 59 #[.int .i64 C3, .int .i64 S3, .int .u64 (wb R3), .slice A3 L3.length c3] _ _ mb3 Try.underlying59 rfl (by exact gsize_down) ?_) | fail)
  clear p3 mb3
  refine (HEG.out _ _ _ a0).mono ?_
  rintro e x8 ⟨rfl, hn⟩
  replace a0 := a0.below hn
  replace hw := hw.trans (hn.mono hw.size)
  have hn := (Below.refl x8.heap.size x8).alloc (Nat.le_refl _) (.cells M8.toArray 68)
  have mb8 := Blk.new x8 M8.toArray 68
  replace a0 := a0.below hn
  replace hw := hw.trans (hn.mono hw.size)
  clear hn
  go_wp2_with (first | (refine wpList_store_last rfl 68 _ _ rfl _ _ M8.toArray 68 rfl rfl rfl (by rw [List.size_toArray, HL8.out]; exact sizeEnv) (by show _ = M8.length; rw [HL8.out]; rfl) HO8.out ?_; generalize x8.alloc (.cells M8.toArray 68) = y8 at *) | (refine wpList_load_row rfl 68 _ rfl _ rfl 68 M8.toArray _ _ mb8 Try.underlying68 rfl (by rw [List.size_toArray, HL8.out]; exact sizeEnv) ?_) | fail)
  refine (HEP.out _).mono ?_
  rintro e z8 ⟨v8, rfl, p8, hn⟩
  replace a0 := a0.below hn
  replace hw := hw.trans (hn.mono hw.size)
  clear hn mb8
  go_wp2_with fail
  refine (bytesEqual_v a0 p8).mono ?_
  rintro e w' ⟨rfl, rfl⟩
  rw [HDD.out]
  clear p8
  go_wp2_with fail
  refine (kind_any d _ _ a0 HM.out).mono ?_
  rintro e wk ⟨rfl, hn⟩
  rw [HK.out]
  replace a0 := a0.below hn
  replace hw := hw.trans (hn.mono hw.size)
  clear hn
  go_wp2_with fail
  go_ret
  exact ⟨rfl, hw⟩
theorem there_walk (b : List (BitVec 8)) (A : Option Addr) (cap : Nat) (w : World) (hR : Rd w .u8 A b) (hcap : b.length ≤ cap) :
    Calls Try.prog 10 #[.slice A b.length cap] w fun e w' => e = .returned (.bool true) ∧ Below w.heap.size w w' := by
  obtain ⟨d, hd⟩ : ∃ d, d = b.take 1000 := ⟨_, rfl⟩
  cases h1 : annOk d with
  | true => exact there_a d b A cap w hR hcap hd h1
  | false =>
    cases h2 : upOk d with
    | true => exact there_u d b A cap w hR hcap hd h2
    | false =>
      cases h3 : downOk d with
      | true => exact there_d d b A cap w hR hcap hd h3
      | false =>
        by_cases h4 : d.length = 114 ∧ mayE (wb (d.getD 0 0)) (num32 d 5) (d.drop 9) = true
        · exact there_e d b A cap w hR hcap hd h1 h2 h3 h4.1 h4.2
        · refine there_n d b A cap w hR hcap hd h1 h2 h3 (fun h => ?_)
          cases hm : mayE (wb (d.getD 0 0)) (num32 d 5) (d.drop 9) with
          | false => rfl
          | true => exact absurd ⟨h, hm⟩ h4
end Go.Proofs.Ytjnbgoiaocpcjaa
