/- Which envelopes may be, and their bytes; for every envelope and bytes. -/
import Derived.Test.YtjnbgoiaocpcjaaFrGetE
import Derived.Test.YtjnbgoiaocpcjaaFrRefE
import Derived.Test.YtjnbgoiaocpcjaaFrRefGE
import Derived.Test.YtjnbgoiaocpcjaaRoomCut
import Derived.Test.YtjnbgoiaocpcjaaWakes
namespace Go.Proofs.Ytjnbgoiaocpcjaa
open Go.RowKit
set_option linter.unusedVariables false
theorem getEnvelope_v {w : World} {v : Value} {b : List (BitVec 8)} (h : Arg w v b) (hlen : b.length ≤ 140737488355328) : Calls Try.prog 38 #[v] w (EnvGot b w) := by
  obtain ⟨A, cap, rfl, hc, hr⟩ := h
  exact getEnvelope_any b A cap w hr hc hlen
theorem rGetEnvelope_v {w : World} {v : Value} {b : List (BitVec 8)} (h : Arg w v b) (hl : b.length = 114) : Calls Try.prog 39 #[v] w fun e w' => e = .returned (.agg (envL (wb (b.getD 0 0)) (num32 b 1) (num32 b 5) (b.drop 9)).toArray) ∧ Below w.heap.size w w' := by
  obtain ⟨A, cap, rfl, hc, hr⟩ := h
  rw [hl]
  exact rGetEnvelope_any b A cap w hr hl (by omega)
theorem envGot_out {b : List (BitVec 8)} {w w' : World} {e : Ending} (h : EnvGot b w e w') : ∃ (E : List Value) (code : Int), e = .returned (.tuple #[.agg E.toArray, .int .i64 code]) ∧ Below w.heap.size w w' ∧ E.length = 108 ∧ E.toArray.all (·.oneCell') = true ∧ (∀ w, (Op.equalIn 10000 68 (.agg E.toArray) (.agg E.toArray)).run Try.prog w = .ok true w) ∧
    (b.length = 114 → mayE (wb (b.getD 0 0)) (num32 b 5) (b.drop 9) = true → code = 0 ∧ E = envL (wb (b.getD 0 0)) (num32 b 1) (num32 b 5) (b.drop 9)) ∧ (b.length = 114 → mayE (wb (b.getD 0 0)) (num32 b 5) (b.drop 9) = false → code = 241 ∧ E = env0) ∧ (b.length ≠ 114 → code = 240 ∧ E = env0) := by
  obtain ⟨rfl, hb⟩ := h
  have h0 : ∀ w, (Op.equalIn 10000 68 (.agg env0.toArray) (.agg env0.toArray)).run Try.prog w = .ok true w := eq_env 9997 0 0 0 z105 (by simp [z105])
  by_cases h114 : b.length = 114
  · have hd : (b.drop 9).length = 105 := by rw [List.length_drop]; omega
    cases hr : mayE (wb (b.getD 0 0)) (num32 b 5) (b.drop 9) with
    | true => exact ⟨_, 0, by rw [if_pos h114, if_pos rfl], hb, envL_length _ _ _ _ hd, envL_one _ _ _ _, eq_env 9997 _ _ _ _ hd, fun _ _ => ⟨rfl, rfl⟩, fun _ h => by simp at h, fun h => absurd h114 h⟩
    | false => exact ⟨env0, 241, by rw [if_pos h114, if_neg (by simp)], hb, env0_length, envL_one 0 0 0 z105, h0, fun _ h => by simp at h, fun _ _ => ⟨rfl, rfl⟩, fun h => absurd h114 h⟩
  · exact ⟨env0, 240, by rw [if_neg h114], hb, env0_length, envL_one 0 0 0 z105, h0, fun h => absurd h h114, fun h => absurd h h114, fun _ => ⟨rfl, rfl⟩⟩
set_option maxRecDepth 100000 in
set_option maxHeartbeats 4000000 in
theorem envelopes_walk (kd : Int) (a s : BitVec 32) (body b : List (BitVec 8)) (A : Option Addr) (cap : Nat) (w : World) (hbd : body.length = 105) (hR : Rd w .u8 A b) (hcap : b.length ≤ cap) :
    Calls Try.prog 6 #[.agg (envL kd a s body).toArray, .slice A b.length cap] w fun e w' => e = .returned (.bool true) ∧ Below w.heap.size w w' := by
  have HA : Hid (Arg w (.slice A b.length cap) b) := ⟨A, cap, rfl, hcap, hR⟩
  have HM := Lib.hid (envL_length kd a s body hbd)
  have HPUT := Lib.hid (fun w' => putEnvelope_any kd a s body hbd w')
  have HRIGHT := Lib.hid (fun w' => rRightEnv_any kd a s body hbd w')
  have HREF := Lib.hid (fun w' => rEnvelope_any kd a s body hbd w')
  have HZ := Lib.hid env0_length
  have hz := Lib.hid build_env0
  clear hR hcap hbd
  generalize hu : Value.slice A b.length cap = u at *
  clear hu
  generalize envL kd a s body = V at *
  unfold EnvPut at HPUT
  generalize envB kd a s body = VB at *
  generalize mayE kd s body = r at *
  go_enter Try.func6, Try.ntmps6
  go_wp2_with fail
  have hb : Below w.heap.size w (w.alloc (.cells V.toArray 68)) := (Below.refl _ _).alloc (Nat.le_refl _) _
  have hBv : Blk (w.alloc (.cells V.toArray 68)) w.heap.size V.toArray 68 := Blk.new _ _ _
  generalize w.alloc (.cells V.toArray 68) = W0 at *
  refine (wakes_any W0).mono ?_
  rintro e w1 ⟨rfl, hb1⟩
  replace hBv := hBv.below hb1 hBv.lt
  replace hb := hb.trans (hb1.mono hb.size)
  clear hb1
  go_wp2_with fail
  refine (cut_v (HA.out.below hb)).mono ?_
  rintro e w2 ⟨u2, rfl, hA2, rfl⟩
  have hcl : Hid ((b.take 1000).length ≤ 1000) := by show _ ≤ _; rw [List.length_take]; omega
  generalize b.take 1000 = c at *
  obtain ⟨A2, c2, rfl, hc2, hr2⟩ := id hA2
  generalize hm : c.length = m at *
  have hm' := Lib.hid hm
  clear hm hc2 hr2
  go_wp2_with (first | (refine wpList_load_row rfl 68 _ rfl _ rfl 68 _ (0, 0) _ hBv Try.underlying68 rfl (by rw [List.size_toArray, HM.out]; exact sizeEnv) ?_) | fail)
  refine (HPUT.out _).mono ?_
  rintro e w3 ⟨hp, hb3⟩
  replace hBv := hBv.below hb3 hBv.lt
  replace hA2 := hA2.below hb3
  replace hb := hb.trans (hb3.mono hb.size)
  clear hb3 HPUT
  cases r
  case' false =>
    rw [if_neg (by simp)] at hp
    subst hp
    go_wp2_with (first | (refine wpList_load_row rfl 68 _ rfl _ rfl 68 _ (0, 0) _ hBv Try.underlying68 rfl (by rw [List.size_toArray, HM.out]; exact sizeEnv) ?_) | fail)
    refine (HRIGHT.out _).mono ?_
    rintro e wr ⟨rfl, hb4⟩
    replace hA2 := hA2.below hb4
    replace hb := hb.trans (hb4.mono hb.size)
    clear hb4 hBv
    go_wp2_with fail
  case' true =>
    rw [if_pos rfl] at hp
    obtain ⟨v, rfl, hv⟩ := hp
    replace hv := hv.arg
    obtain ⟨Av, cv, rfl, hcv, hrv⟩ := id hv
    generalize VB.length = nv at *
    go_wp2_with (first | (refine wpList_load_row rfl 68 _ rfl _ rfl 68 _ (0, 0) _ hBv Try.underlying68 rfl (by rw [List.size_toArray, HM.out]; exact sizeEnv) ?_) | fail)
    refine (HRIGHT.out _).mono ?_
    rintro e w4 ⟨rfl, hb4⟩
    replace hA2 := hA2.below hb4
    replace hb := hb.trans (hb4.mono hb.size)
    replace hBv := hBv.below hb4 hBv.lt
    replace hv := hv.below hb4
    clear hb4 hrv
    go_wp2_with (first | (refine wpList_load_part_guarded rfl 68 _ rfl w.heap.size 0 rfl 68 V.toArray (0, 0) _ V hBv (fun j v h => by simpa using h) Try.underlying68 rfl (by rw [HM.out]; exact sizeEnv) ?_) | fail)
    refine (HREF.out _).mono ?_
    rintro e wr ⟨vr, rfl, h5, hb5⟩
    replace h5 : OwnB wr _ vr VB := h5
    replace hA2 := hA2.below hb5
    replace hb := hb.trans (hb5.mono hb.size)
    replace hv := hv.below hb5
    clear hb5 hBv
    go_wp2_with fail
    refine (bytesEqual_v hv h5.arg).mono ?_
    rintro e w'' ⟨rfl, rfl⟩
    simp only [beq_self_eq_true]
    clear h5 hv
    go_wp2_with fail
  all_goals
    refine (room_v hA2 (by rw [hm'.out]; exact hcl.out)).mono ?_
    rintro e w9 ⟨u9, rfl, hA9, hb9⟩
    replace hb := hb.trans (hb9.mono hb.size)
    replace hA2 := hA2.below hb9
    clear hb9
    go_wp2_with fail
    refine (getEnvelope_v hA9 (by rw [hm'.out]; have := hcl.out; omega)).mono ?_
    rintro e wa hg
    obtain ⟨E, code, rfl, hbE, El, Eo, Ee, Ep, Ef, En⟩ := envGot_out hg
    rw [hm'.out] at Ep Ef En
    have EL := Lib.hid El
    have EO := Lib.hid Eo
    have EE := Lib.hid Ee
    have EP := Lib.hid Ep
    have EF := Lib.hid Ef
    have EN := Lib.hid En
    clear hg El Eo Ee Ep Ef En
    replace hb := hb.trans (hbE.mono hb.size)
    replace hA2 := hA2.below hbE
    clear hbE hA9
    have hN := Blk.new wa env0.toArray 68
    have hBE := hN.row E.toArray
    have hDa : Below wa.heap.size wa ((wa.alloc (.cells env0.toArray 68)).setRow wa.heap.size E.toArray) := below_setRow ((Below.refl _ _).alloc (Nat.le_refl _) _) (Nat.le_refl _) _
    replace hA2 := hA2.below hDa
    replace hb := hb.trans (hDa.mono hb.size)
    clear hDa
    have hEe := EE.out
    by_cases h114 : m = 114
    · subst h114
      have HG := Lib.hid (fun (w' : World) (h : Arg w' (.slice A2 114 c2) c) => rGetEnvelope_v h hm'.out)
      have hd : (c.drop 9).length = 105 := by rw [List.length_drop, hm'.out]
      have HQ := Lib.hid (fun w' => rRightEnv_any (wb (c.getD 0 0)) (num32 c 1) (num32 c 5) (c.drop 9) hd w')
      have HT := EP.out rfl
      have HF := EF.out rfl
      have WL := Lib.hid (envL_length (wb (c.getD 0 0)) (num32 c 1) (num32 c 5) (c.drop 9) hd)
      have WO := Lib.hid (envL_one (wb (c.getD 0 0)) (num32 c 1) (num32 c 5) (c.drop 9))
      clear hd EN EP EF
      generalize mayE (wb (c.getD 0 0)) (num32 c 5) (c.drop 9) = q at *
      generalize envL (wb (c.getD 0 0)) (num32 c 1) (num32 c 5) (c.drop 9) = WA at *
      have HT' := Lib.hid HT
      have HF' := Lib.hid HF
      clear HT HF
      go_wp2_with (first | (refine wpList_store_row rfl 68 _ _ rfl _ _ rfl rfl 68 _ hN (by rw [List.size_toArray, EL.out]; exact sizeEnv) (by rw [List.size_toArray, List.size_toArray, EL.out, HZ.out]) EO.out ?_; change wpList _ _ _ _ _ ((wa.alloc (.cells env0.toArray 68)).setRow wa.heap.size E.toArray); generalize (wa.alloc (.cells env0.toArray 68)).setRow wa.heap.size E.toArray = wE at *; generalize wa.heap.size = gE at *) | fail)
      refine (HG.out _ hA2).mono ?_
      rintro e wf ⟨rfl, hbf⟩
      replace hb := hb.trans (hbf.mono hb.size)
      replace hBE := hBE.below hbf hBE.lt
      clear hA2 hbf hN HG
      have hN2 := Blk.new wf env0.toArray 68
      have hBW := hN2.row WA.toArray
      have hDb : Below wf.heap.size wf ((wf.alloc (.cells env0.toArray 68)).setRow wf.heap.size WA.toArray) := below_setRow ((Below.refl _ _).alloc (Nat.le_refl _) _) (Nat.le_refl _) _
      replace hb := hb.trans (hDb.mono hb.size)
      replace hBE := hBE.below hDb hBE.lt
      clear hDb
      go_wp2_with (first | (refine wpList_store_row rfl 68 _ _ rfl _ _ rfl rfl 68 _ hN2 (by rw [List.size_toArray, WL.out]; exact sizeEnv) (by rw [List.size_toArray, List.size_toArray, WL.out, HZ.out]) WO.out ?_; change wpList _ _ _ _ _ ((wf.alloc (.cells env0.toArray 68)).setRow wf.heap.size WA.toArray); generalize (wf.alloc (.cells env0.toArray 68)).setRow wf.heap.size WA.toArray = wW at *; generalize wf.heap.size = gW at *) | (refine wpList_load_row rfl 68 _ rfl _ rfl 68 _ (0, 0) _ hBW Try.underlying68 rfl (by rw [List.size_toArray, WL.out]; exact sizeEnv) ?_) | fail)
      refine (HQ.out _).mono ?_
      rintro e wz ⟨rfl, hbz⟩
      replace hb := hb.trans (hbz.mono hb.size)
      replace hBE := hBE.below hbz hBE.lt
      replace hBW := hBW.below hbz hBW.lt
      clear hbz hN2 HQ
      cases q
      · obtain ⟨rfl, rfl⟩ := HF'.out (by simp)
        go_wp2_with (first | (refine wpList_load_part_guarded rfl 68 _ rfl gE 0 rfl 68 env0.toArray (0, 0) _ env0 hBE (fun j v h => by simpa using h) Try.underlying68 rfl (by rw [HZ.out]; exact sizeEnv) ?_) | (refine wpList_build_g rfl 68 _ rfl (.agg env0.toArray) _ hz.out (by simp) ?_) | fail)
        go_ret
        exact ⟨rfl, hb⟩
      · obtain ⟨rfl, rfl⟩ := HT'.out (by simp)
        go_wp2_with (first | (refine wpList_load_part_guarded rfl 68 _ rfl gE 0 rfl 68 E.toArray (0, 0) _ E hBE (fun j v h => by simpa using h) Try.underlying68 rfl (by rw [EL.out]; exact sizeEnv) ?_) | (refine wpList_load_part_guarded rfl 68 _ rfl gW 0 rfl 68 E.toArray (0, 0) _ E hBW (fun j v h => by simpa using h) Try.underlying68 rfl (by rw [EL.out]; exact sizeEnv) ?_) | fail)
        go_ret
        exact ⟨rfl, hb⟩
    · obtain ⟨rfl, hE⟩ := EN.out h114
      have hzE : Hid (∀ wx, (Instr.build 68 #[]).run Try.prog wx = .ok (.agg E.toArray) wx) := fun wx => by rw [hE]; exact hz.out wx
      clear hE
      have e0 : ((m : Int) != 114) = true := by simp; omega
      clear EP EF EN h114 hm'
      go_wp2_with (first | (refine wpList_store_row rfl 68 _ _ rfl _ _ rfl rfl 68 _ hN (by rw [List.size_toArray, EL.out]; exact sizeEnv) (by rw [List.size_toArray, List.size_toArray, EL.out, HZ.out]) EO.out ?_; change wpList _ _ _ _ _ ((wa.alloc (.cells env0.toArray 68)).setRow wa.heap.size E.toArray); generalize (wa.alloc (.cells env0.toArray 68)).setRow wa.heap.size E.toArray = wE at *; generalize wa.heap.size = gE at *) | (refine wpList_load_part_guarded rfl 68 _ rfl gE 0 rfl 68 E.toArray (0, 0) _ E hBE (fun j v h => by simpa using h) Try.underlying68 rfl (by rw [EL.out]; exact sizeEnv) ?_) | (refine wpList_build_g rfl 68 _ rfl (.agg E.toArray) _ hzE.out (by simp) ?_) | fail)
      go_ret
      exact ⟨rfl, hb⟩
end Go.Proofs.Ytjnbgoiaocpcjaa
