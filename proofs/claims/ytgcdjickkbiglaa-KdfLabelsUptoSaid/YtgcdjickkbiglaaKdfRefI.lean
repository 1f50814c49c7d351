/- The reference's Info and Two. -/
import Derived.Test.YtgcdjickkbiglaaKdfRefX
import Derived.Test.YtgcdjickkbiglaaKdfTwo
namespace Go.Proofs.Ytgcdjickkbiglaa
open Go.RowKit
set_option linter.unusedVariables false
set_option linter.unusedSimpArgs false
attribute [local go_sem] strB_size
theorem lenL_def (n : Nat) : low (BitVec.ofNat 64 n) 4 = lenL n := rfl
set_option maxRecDepth 100000 in
set_option maxHeartbeats 8000000 in
theorem rinfo_any (label : List (BitVec 8)) (ls : List (List (BitVec 8))) (PA : Option Addr) (pc : Nat) (w : World) (hP : PartsR w PA ls) (hlab : label.length ≤ 1048576) (hll : ls.length ≤ 1048576) (hfl : ls.flatten.length ≤ 1048576) :
    Calls Try.prog 35 #[.string (strB label), .slice PA ls.length pc] w (RetOwn w 5 .u8 (infoL label ls)) := by
  obtain ⟨vs, hP, hvl, hrow⟩ := hP
  have HP := Lib.hid hP
  have HVL := Lib.hid hvl
  have HROW := Lib.hid hrow
  have HLAB := Lib.hid hlab
  have HFL := Lib.hid hfl
  have HLE := Lib.hid (infoL_le label ls)
  have hcv : IntKind.u64.wrap (label.length : Int) = wb (BitVec.ofNat 64 label.length) := wrap_nat isU64 _
  have HIN := Lib.hid (infoL_nil label)
  have HIT : Hid (infoL label (ls.take ls.length) = infoL label ls) := by show _ = _; rw [List.take_length]
  clear hP hvl hrow hfl hlab
  go_enter Try.func35, Try.ntmps35
  go_wp2_with fail
  have h0 := rlow_any (BitVec.ofNat 64 label.length) 4 w (by omega)
  refine h0.mono ?_
  rintro e w1 ⟨v1, rfl, h1, hb⟩
  clear h0
  replace h1 : OwnB w1 w.heap.size v1 (lenL label.length) := h1
  obtain ⟨cc, W2, hcs, hcc, hR2, hn⟩ := conv_str w1 label
  have ha2 := arg_of hR2 rfl hcc
  replace h1 := h1.below hn
  replace hb := hb.trans (hn.mono hb.size)
  have HB1 := Lib.hid (both_v h1.arg ha2 (by rw [lenL_length]; have := HLAB.out; omega))
  have HBB := Lib.hid hb
  clear h1 ha2 hb hn hR2 hcc
  go_wp2_with fail
  refine HB1.out.mono ?_
  rintro e w3 ⟨v3, rfl, h3, hn⟩
  replace h3 : OwnB w3 W2.heap.size v3 (lenL label.length ++ label) := h3
  rw [← HIN.out] at h3
  have hb := HBB.out
  have hs0 := hb.size
  replace hb := hb.trans (hn.mono hb.size)
  replace h3 := h3.base hs0
  clear hn HBB HB1 hcs hs0
  go_wp2_with fail
  go_loopw [5, 6] (fun vo vi wr => ∃ k : Nat, k ≤ ls.length ∧ vi = .int .i64 k ∧ OwnB wr w.heap.size vo (infoL label (ls.take k)) ∧ Below w.heap.size w wr) (fun _ vi _ => ls.length - (intOf vi).toNat)
  case atStart => exact ⟨0, by omega, rfl, by rw [List.take_zero]; exact h3, hb⟩
  case round =>
    clear h3 hb
    obtain ⟨k, hk, rfl, hown, hb⟩ := hrel
    by_cases hlt : k < ls.length
    · have j1 : (k : Int) < (ls.length : Int) := by omega
      obtain ⟨gp, op, rfl, hcell⟩ := HP.out.below hb k (by rw [HVL.out]; exact hlt)
      have HCX : Hid (∀ wx, Below w.heap.size w wx → wx.cell? ⟨gp, op + k, none⟩ = some (vs.getD k undef)) := fun wx hbx => by
        obtain ⟨_, _, e1, e2⟩ := HP.out.below hbx k (by rw [HVL.out]; exact hlt)
        cases e1
        exact e2
      have hrow := HROW.out k hlt
      have HS := Lib.hid (infoL_succ label ls k hlt)
      have HL0 := Lib.hid (HLE.out k hk)
      have HL1 := HLE.out (k + 1) hlt
      rw [HS.out, List.length_append, List.length_append] at HL1
      replace HL1 := Lib.hid HL1
      generalize vs.getD k undef = pv at *
      generalize ls.getD k [] = p at *
      have HPA := Lib.hid hrow
      obtain ⟨Ap, cp, rfl, -, -, -⟩ := hrow
      have hcp : IntKind.u64.wrap (p.length : Int) = wb (BitVec.ofNat 64 p.length) := wrap_nat isU64 _
      have HO := Lib.hid (And.intro hown hb)
      clear hown hb
      go_wp2_with fail
      refine (rlow_any (BitVec.ofNat 64 p.length) 4 wr (by omega)).mono ?_
      rintro e y1 ⟨v1', rfl, h1', hn⟩
      replace h1' : OwnB y1 wr.heap.size v1' (lenL p.length) := h1'
      have ho := HO.out.1.below hn
      have hb := HO.out.2.trans (hn.mono HO.out.2.size)
      clear hn HO
      go_wp2_with fail
      refine (both_v ho.arg h1'.arg (by rw [lenL_length]; have := HL0.out; have := HLAB.out; have := HFL.out; omega)).mono ?_
      rintro e y2 ⟨v2', rfl, h2', hn⟩
      replace h2' : OwnB y2 y1.heap.size v2' (infoL label (ls.take k) ++ lenL p.length) := h2'
      have hs1 := hb.size
      replace hb := hb.trans (hn.mono hs1)
      replace h2' := h2'.base hs1
      clear hn ho h1'
      have hcell2 := HCX.out y2 hb
      have HB3 := Lib.hid (both_v h2'.arg (HPA.out.below hb).arg (by have := HL1.out; have := HLAB.out; have := HFL.out; rw [List.length_append]; omega))
      have HBB := Lib.hid hb
      clear hcell h2' hb
      go_wp2_with fail
      refine HB3.out.mono ?_
      rintro e y3 ⟨v3', rfl, h3', hn⟩
      replace h3' : OwnB y3 y2.heap.size v3' (infoL label (ls.take k) ++ lenL p.length ++ p) := h3'
      rw [← HS.out] at h3'
      have hs2 := HBB.out.size
      have hb := HBB.out.trans (hn.mono hs2)
      clear hn HBB HB3 hcell2
      go_wp2_with fail
      exact ⟨⟨k + 1, by omega, by go_num, h3'.base hs2, hb⟩, by simp [intOf]; omega⟩
    · obtain rfl : k = ls.length := by omega
      rw [HIT.out] at hown
      have j1 : ¬ (ls.length : Int) < (ls.length : Int) := by omega
      go_wp2_with fail
      go_ret
      exact ⟨_, rfl, hown, hb⟩
theorem over_z32 (l : List (BitVec 8)) (h : l.length = 32) : over (encs .u8 z32s) 0 ((encL .u8 l).take 32) = encs .u8 l := by
  rw [List.take_of_length_le (by rw [encL_length, h]; exact Nat.le_refl _), over_encs, overL_all z32s l (by rw [h]; rfl)]
set_option maxRecDepth 100000 in
set_option maxHeartbeats 8000000 in
theorem rtwo_any (key label : List (BitVec 8)) (ls : List (List (BitVec 8))) (PA : Option Addr) (pc : Nat) (w : World) (hk : key.length = 32)
    (hP : PartsR w PA ls) (hlab : label.length ≤ 1000) (hll : ls.length ≤ 1000) (hfl : ls.flatten.length ≤ 100000) :
    Calls Try.prog 21 #[.agg (encs .u8 key), .string (strB label), .slice PA ls.length pc] w fun e w' => e = .returned (.tuple #[.agg (encs .u8 ((twoK key label ls).take 32)), .agg (encs .u8 ((twoK key label ls).drop 32))]) ∧ Below w.heap.size w w' := by
  have HP := Lib.hid hP
  have HK := Lib.hid hk
  have HLAB := Lib.hid hlab
  have HLL := Lib.hid hll
  have HFL := Lib.hid hfl
  have HIL : Hid ((infoL label ls).length ≤ 1048576) := by show _ ≤ _; rw [infoL_length]; omega
  have H2L := Lib.hid (twoK_length key label ls)
  clear hP hlab hfl hk
  go_enter Try.func21, Try.ntmps21
  go_wp2_with fail
  obtain ⟨m0, m1, m2, hb⟩ := three_mem w (encs .u8 key) #[Value.int .u8 0, Value.int .u8 0, Value.int .u8 0, Value.int .u8 0, Value.int .u8 0, Value.int .u8 0, Value.int .u8 0, Value.int .u8 0, Value.int .u8 0, Value.int .u8 0, Value.int .u8 0, Value.int .u8 0, Value.int .u8 0, Value.int .u8 0, Value.int .u8 0, Value.int .u8 0, Value.int .u8 0, Value.int .u8 0, Value.int .u8 0, Value.int .u8 0, Value.int .u8 0, Value.int .u8 0, Value.int .u8 0, Value.int .u8 0, Value.int .u8 0, Value.int .u8 0, Value.int .u8 0, Value.int .u8 0, Value.int .u8 0, Value.int .u8 0, Value.int .u8 0, Value.int .u8 0] #[Value.int .u8 0, Value.int .u8 0, Value.int .u8 0, Value.int .u8 0, Value.int .u8 0, Value.int .u8 0, Value.int .u8 0, Value.int .u8 0, Value.int .u8 0, Value.int .u8 0, Value.int .u8 0, Value.int .u8 0, Value.int .u8 0, Value.int .u8 0, Value.int .u8 0, Value.int .u8 0, Value.int .u8 0, Value.int .u8 0, Value.int .u8 0, Value.int .u8 0, Value.int .u8 0, Value.int .u8 0, Value.int .u8 0, Value.int .u8 0, Value.int .u8 0, Value.int .u8 0, Value.int .u8 0, Value.int .u8 0, Value.int .u8 0, Value.int .u8 0, Value.int .u8 0, Value.int .u8 0] 25 25 25
  replace m1 : Blk _ (w.heap.size + 1) (encs .u8 z32s) 25 := m1
  replace m2 : Blk _ (w.heap.size + 1 + 1) (encs .u8 z32s) 25 := m2
  generalize ((w.alloc (.cells (encs .u8 key) 25)).alloc (.cells #[Value.int .u8 0, Value.int .u8 0, Value.int .u8 0, Value.int .u8 0, Value.int .u8 0, Value.int .u8 0, Value.int .u8 0, Value.int .u8 0, Value.int .u8 0, Value.int .u8 0, Value.int .u8 0, Value.int .u8 0, Value.int .u8 0, Value.int .u8 0, Value.int .u8 0, Value.int .u8 0, Value.int .u8 0, Value.int .u8 0, Value.int .u8 0, Value.int .u8 0, Value.int .u8 0, Value.int .u8 0, Value.int .u8 0, Value.int .u8 0, Value.int .u8 0, Value.int .u8 0, Value.int .u8 0, Value.int .u8 0, Value.int .u8 0, Value.int .u8 0, Value.int .u8 0, Value.int .u8 0] 25)).alloc (.cells #[Value.int .u8 0, Value.int .u8 0, Value.int .u8 0, Value.int .u8 0, Value.int .u8 0, Value.int .u8 0, Value.int .u8 0, Value.int .u8 0, Value.int .u8 0, Value.int .u8 0, Value.int .u8 0, Value.int .u8 0, Value.int .u8 0, Value.int .u8 0, Value.int .u8 0, Value.int .u8 0, Value.int .u8 0, Value.int .u8 0, Value.int .u8 0, Value.int .u8 0, Value.int .u8 0, Value.int .u8 0, Value.int .u8 0, Value.int .u8 0, Value.int .u8 0, Value.int .u8 0, Value.int .u8 0, Value.int .u8 0, Value.int .u8 0, Value.int .u8 0, Value.int .u8 0, Value.int .u8 0] 25) = W0 at *
  refine mix_start (fun w' => Below W0.heap.size W0 w') (List.range 6) [3, 4] [0] [] (by kernel_rfl) (by kernel_rfl) (fun d _ _ _ _ h => by cases d <;> exact h) (Below.refl _ _).drew ?_
  refine mix_load_row rfl rfl rfl rfl 25 _ rfl w.heap.size rfl _ 25 (0, 0) _ (fun w' hS => m0.below hS m0.lt) Try.underlying25 rfl (by rw [encs_size, HK.out]; exact sizeKey0) ?_
  have hP0 := (HP.out.below hb).below (Below.refl _ _).drew
  replace m1 := m1.drew
  replace m2 := m2.drew
  replace hb := hb.drew
  have hS0 : Below W0.heap.size W0 W0.drew := (Below.refl _ _).drew
  clear m0
  generalize W0.drew = w1 at *
  repeat (refine mix_pure rfl rfl (fun K hK => ?_); go_simp; refine hK _ ?_; clear hK K)
  refine mix_eff rfl rfl (fun K hK => ?_)
  go_simp
  refine (rinfo_any label ls PA pc w1 hP0 (by have := HLAB.out; omega) (by have := HLL.out; omega) (by have := HFL.out; omega)).mono ?_
  rintro e w2 ⟨v2, rfl, h2, hn⟩
  replace h2 : OwnB w2 w1.heap.size v2 (infoL label ls) := h2
  replace m1 := m1.below hn m1.lt
  replace m2 := m2.below hn m2.lt
  replace hb := hb.trans (hn.mono hb.size)
  replace hS0 := hS0.trans (hn.mono hS0.size)
  refine hK _ _ (fun _ _ => hS0) ?_
  clear hK K hn hP0
  repeat (refine mix_pure rfl rfl (fun K hK => ?_); go_simp; refine hK _ ?_; clear hK K)
  refine mix_eff rfl rfl (fun K hK => ?_)
  go_simp
  refine (rexpand_any key (infoL label ls) _ 64 w2 HK.out h2.arg HIL.out (by omega)).mono ?_
  rintro e w3 ⟨v3, rfl, h3, hn⟩
  replace h3 : OwnB w3 w2.heap.size v3 (twoK key label ls) := h3
  have hm1 := m1.lt
  have hm2 := m2.lt
  replace m1 := m1.below hn m1.lt
  replace m2 := m2.below hn m2.lt
  replace hb := hb.trans (hn.mono hb.size)
  replace hS0 := hS0.trans (hn.mono hS0.size)
  refine hK _ _ (fun _ _ => hS0) ?_
  clear hK K hn h2
  repeat (refine mix_pure rfl rfl (fun K hK => ?_); go_simp; refine hK _ ?_; clear hK K)
  refine mix_nil ?_
  obtain ⟨A3, c3, rfl, hc3, hR3⟩ := id h3.arg
  rw [H2L.out] at hc3 ⊢
  obtain ⟨g3, o3, rfl⟩ := hR3.somewhere (by rw [H2L.out]; omega)
  have hs1 := fun wx => run_slice_to (P := Try.prog) bytesT (some ⟨g3, o3, none⟩) 64 c3 (32 : Int) .i64 (by omega) (by omega) wx
  rw [cutA_zero] at hs1
  replace hs1 : ∀ wx, (Instr.slice 22 (.slice (some ⟨g3, o3, none⟩) 64 c3) none (some (.int .i64 32)) none).run Try.prog wx = .ok (.slice (some ⟨g3, o3, none⟩) 32 c3) wx := hs1
  have hs2 := fun wx => run_slice_from (P := Try.prog) bytesT (some ⟨g3, o3, none⟩) 64 c3 (32 : Int) .i64 (by omega) (by omega) wx
  have hca : cutA (some ⟨g3, o3, none⟩) ((32 : Int).toNat) c3 1 = some ⟨g3, o3 + 32, none⟩ := by
    unfold cutA
    rw [if_neg (by simp; omega)]
    simp only [Option.map_some, add_lit]
    rfl
  rw [hca] at hs2
  replace hs2 : ∀ wx, (Instr.slice 22 (.slice (some ⟨g3, o3, none⟩) 64 c3) (some (.int .i64 32)) none none).run Try.prog wx = .ok (.slice (some ⟨g3, o3 + 32, none⟩) 32 (c3 - 32)) wx := hs2
  have hRt : Rd w3 .u8 (some ⟨g3, o3, none⟩) ((twoK key label ls).take 32) := rd_take hR3 32
  have hRd : Rd w3 .u8 (some ⟨g3, o3 + 32, none⟩) ((twoK key label ls).drop 32) := by
    have h := rd_cut hR3 32 32 c3 (by rw [H2L.out]; exact hc3)
    rw [show cutA (some ⟨g3, o3, none⟩) 32 c3 1 = some ⟨g3, o3 + 32, none⟩ from hca, List.take_of_length_le (by rw [List.length_drop, H2L.out]; omega)] at h
    exact h
  have HXL : Hid (((twoK key label ls).take 32).length = 32) := by show _ = _; rw [List.length_take, H2L.out]; rfl
  have HYL : Hid (((twoK key label ls).drop 32).length = 32) := by show _ = _; rw [List.length_drop, H2L.out]
  obtain ⟨X, hX⟩ : ∃ X, (twoK key label ls).take 32 = X := ⟨_, rfl⟩
  obtain ⟨Y, hY⟩ : ∃ Y, (twoK key label ls).drop 32 = Y := ⟨_, rfl⟩
  rw [hX] at hRt HXL
  rw [hY] at hRd HYL
  have HX := Lib.hid hX
  have HY := Lib.hid hY
  clear hX hY hca hR3 hS0 h3
  obtain ⟨n3, n4, hn⟩ : Blk ((w3.alloc (.cells #[Value.int .u8 0, Value.int .u8 0, Value.int .u8 0, Value.int .u8 0, Value.int .u8 0, Value.int .u8 0, Value.int .u8 0, Value.int .u8 0, Value.int .u8 0, Value.int .u8 0, Value.int .u8 0, Value.int .u8 0, Value.int .u8 0, Value.int .u8 0, Value.int .u8 0, Value.int .u8 0, Value.int .u8 0, Value.int .u8 0, Value.int .u8 0, Value.int .u8 0, Value.int .u8 0, Value.int .u8 0, Value.int .u8 0, Value.int .u8 0, Value.int .u8 0, Value.int .u8 0, Value.int .u8 0, Value.int .u8 0, Value.int .u8 0, Value.int .u8 0, Value.int .u8 0, Value.int .u8 0] 25)).alloc (.cells #[Value.int .u8 0, Value.int .u8 0, Value.int .u8 0, Value.int .u8 0, Value.int .u8 0, Value.int .u8 0, Value.int .u8 0, Value.int .u8 0, Value.int .u8 0, Value.int .u8 0, Value.int .u8 0, Value.int .u8 0, Value.int .u8 0, Value.int .u8 0, Value.int .u8 0, Value.int .u8 0, Value.int .u8 0, Value.int .u8 0, Value.int .u8 0, Value.int .u8 0, Value.int .u8 0, Value.int .u8 0, Value.int .u8 0, Value.int .u8 0, Value.int .u8 0, Value.int .u8 0, Value.int .u8 0, Value.int .u8 0, Value.int .u8 0, Value.int .u8 0, Value.int .u8 0, Value.int .u8 0] 25)) w3.heap.size (encs .u8 z32s) 25 ∧ Blk ((w3.alloc (.cells #[Value.int .u8 0, Value.int .u8 0, Value.int .u8 0, Value.int .u8 0, Value.int .u8 0, Value.int .u8 0, Value.int .u8 0, Value.int .u8 0, Value.int .u8 0, Value.int .u8 0, Value.int .u8 0, Value.int .u8 0, Value.int .u8 0, Value.int .u8 0, Value.int .u8 0, Value.int .u8 0, Value.int .u8 0, Value.int .u8 0, Value.int .u8 0, Value.int .u8 0, Value.int .u8 0, Value.int .u8 0, Value.int .u8 0, Value.int .u8 0, Value.int .u8 0, Value.int .u8 0, Value.int .u8 0, Value.int .u8 0, Value.int .u8 0, Value.int .u8 0, Value.int .u8 0, Value.int .u8 0] 25)).alloc (.cells #[Value.int .u8 0, Value.int .u8 0, Value.int .u8 0, Value.int .u8 0, Value.int .u8 0, Value.int .u8 0, Value.int .u8 0, Value.int .u8 0, Value.int .u8 0, Value.int .u8 0, Value.int .u8 0, Value.int .u8 0, Value.int .u8 0, Value.int .u8 0, Value.int .u8 0, Value.int .u8 0, Value.int .u8 0, Value.int .u8 0, Value.int .u8 0, Value.int .u8 0, Value.int .u8 0, Value.int .u8 0, Value.int .u8 0, Value.int .u8 0, Value.int .u8 0, Value.int .u8 0, Value.int .u8 0, Value.int .u8 0, Value.int .u8 0, Value.int .u8 0, Value.int .u8 0, Value.int .u8 0] 25)) (w3.heap.size + 1) (encs .u8 z32s) 25 ∧ Below w3.heap.size w3 ((w3.alloc (.cells #[Value.int .u8 0, Value.int .u8 0, Value.int .u8 0, Value.int .u8 0, Value.int .u8 0, Value.int .u8 0, Value.int .u8 0, Value.int .u8 0, Value.int .u8 0, Value.int .u8 0, Value.int .u8 0, Value.int .u8 0, Value.int .u8 0, Value.int .u8 0, Value.int .u8 0, Value.int .u8 0, Value.int .u8 0, Value.int .u8 0, Value.int .u8 0, Value.int .u8 0, Value.int .u8 0, Value.int .u8 0, Value.int .u8 0, Value.int .u8 0, Value.int .u8 0, Value.int .u8 0, Value.int .u8 0, Value.int .u8 0, Value.int .u8 0, Value.int .u8 0, Value.int .u8 0, Value.int .u8 0] 25)).alloc (.cells #[Value.int .u8 0, Value.int .u8 0, Value.int .u8 0, Value.int .u8 0, Value.int .u8 0, Value.int .u8 0, Value.int .u8 0, Value.int .u8 0, Value.int .u8 0, Value.int .u8 0, Value.int .u8 0, Value.int .u8 0, Value.int .u8 0, Value.int .u8 0, Value.int .u8 0, Value.int .u8 0, Value.int .u8 0, Value.int .u8 0, Value.int .u8 0, Value.int .u8 0, Value.int .u8 0, Value.int .u8 0, Value.int .u8 0, Value.int .u8 0, Value.int .u8 0, Value.int .u8 0, Value.int .u8 0, Value.int .u8 0, Value.int .u8 0, Value.int .u8 0, Value.int .u8 0, Value.int .u8 0] 25)) :=
    ⟨(Blk.new _ _ _).alloc _, Blk.new_at _ _ _ _ (by simp), ((Below.refl _ _).alloc (Nat.le_refl _) _).alloc (by simp) _⟩
  have hm1' := m1.lt
  have hm2' := m2.lt
  replace m1 := m1.below hn m1.lt
  replace m2 := m2.below hn m2.lt
  have hbs := hb.size
  replace hb := hb.trans (hn.mono hb.size)
  have hlt3 : g3 < w3.heap.size := by
    obtain ⟨_, _, e, hc⟩ := hRt 0 (by rw [HXL.out]; omega)
    cases e
    exact World.block_lt_of_cell? _ _ hc
  replace hRt := hRt.below hn
  replace hRd := hRd.below hn
  go_wp2_with fail
  generalize (w3.alloc (.cells #[Value.int .u8 0, Value.int .u8 0, Value.int .u8 0, Value.int .u8 0, Value.int .u8 0, Value.int .u8 0, Value.int .u8 0, Value.int .u8 0, Value.int .u8 0, Value.int .u8 0, Value.int .u8 0, Value.int .u8 0, Value.int .u8 0, Value.int .u8 0, Value.int .u8 0, Value.int .u8 0, Value.int .u8 0, Value.int .u8 0, Value.int .u8 0, Value.int .u8 0, Value.int .u8 0, Value.int .u8 0, Value.int .u8 0, Value.int .u8 0, Value.int .u8 0, Value.int .u8 0, Value.int .u8 0, Value.int .u8 0, Value.int .u8 0, Value.int .u8 0, Value.int .u8 0, Value.int .u8 0] 25)).alloc (.cells #[Value.int .u8 0, Value.int .u8 0, Value.int .u8 0, Value.int .u8 0, Value.int .u8 0, Value.int .u8 0, Value.int .u8 0, Value.int .u8 0, Value.int .u8 0, Value.int .u8 0, Value.int .u8 0, Value.int .u8 0, Value.int .u8 0, Value.int .u8 0, Value.int .u8 0, Value.int .u8 0, Value.int .u8 0, Value.int .u8 0, Value.int .u8 0, Value.int .u8 0, Value.int .u8 0, Value.int .u8 0, Value.int .u8 0, Value.int .u8 0, Value.int .u8 0, Value.int .u8 0, Value.int .u8 0, Value.int .u8 0, Value.int .u8 0, Value.int .u8 0, Value.int .u8 0, Value.int .u8 0] 25) = W4 at *
  refine mix_start (fun _ => True) (List.range 4) [3] [] [] (by kernel_rfl) (by kernel_rfl) (fun d _ _ _ _ h => by cases d <;> exact h) trivial ?_
  replace m1 := m1.drew
  replace m2 := m2.drew
  replace n3 := n3.drew
  replace n4 := n4.drew
  replace hb := hb.drew
  have q1 : Rd W4.drew .u8 (some ⟨g3, o3, none⟩) X := hRt
  have q2 : Rd W4.drew .u8 (some ⟨g3, o3 + 32, none⟩) Y := hRd
  clear hRt hRd
  generalize W4.drew = w4 at *
  repeat (refine mix_pure rfl rfl (fun K hK => ?_); go_simp; refine hK _ ?_; clear hK K)
  refine mix_eff rfl rfl (fun K hK => ?_)
  refine step_copy_blk rfl _ _ 22 22 5 rfl Try.underlying22 (by kernel_rfl) (w3.heap.size) 0 32 32 rfl _ _ n3 (some ⟨g3, o3, none⟩) 32 c3 (encL .u8 X) (by rw [encL_length, HXL.out]) rfl q1.cells (encL_one _ _) (by rw [encs_size]; exact Nat.le_refl _) ?_
  intro w5 m5 hu
  rw [over_z32 _ HXL.out] at m5
  dsimp only [Act.put]
  refine hK _ _ (fun _ _ => trivial) ?_
  clear hK K
  replace m1 := m1.upd hu (by omega)
  replace m2 := m2.upd hu (by omega)
  replace n4 := n4.upd hu (by omega)
  replace q2 := q2.upd' hu (fun a ha _ => by cases ha; show g3 ≠ _; omega)
  replace hb := Upd.below hb hu (by omega) hb.size
  replace n3 := m5
  clear hu m5
  generalize w5 = W5 at *
  go_simp
  refine mix_nil ?_
  go_wp2_with fail
  refine mix_start (fun _ => True) (List.range 4) [3] [] [] (by kernel_rfl) (by kernel_rfl) (fun d _ _ _ _ h => by cases d <;> exact h) trivial ?_
  replace m1 := m1.drew
  replace m2 := m2.drew
  replace n3 := n3.drew
  replace n4 := n4.drew
  replace hb := hb.drew
  replace q2 : Rd W5.drew .u8 (some ⟨g3, o3 + 32, none⟩) Y := q2
  generalize W5.drew = w6 at *
  repeat (refine mix_pure rfl rfl (fun K hK => ?_); go_simp; refine hK _ ?_; clear hK K)
  refine mix_eff rfl rfl (fun K hK => ?_)
  refine step_copy_blk rfl _ _ 22 22 5 rfl Try.underlying22 (by kernel_rfl) (w3.heap.size + 1) 0 32 32 rfl _ _ n4 (some ⟨g3, o3 + 32, none⟩) 32 (c3 - 32) (encL .u8 Y) (by rw [encL_length, HYL.out]) rfl q2.cells (encL_one _ _) (by rw [encs_size]; exact Nat.le_refl _) ?_
  intro w5 m5 hu
  rw [over_z32 _ HYL.out] at m5
  dsimp only [Act.put]
  refine hK _ _ (fun _ _ => trivial) ?_
  clear hK K
  replace m1 := m1.upd hu (by omega)
  replace m2 := m2.upd hu (by omega)
  replace n3 := n3.upd hu (by omega)
  clear q2
  replace hb := Upd.below hb hu (by omega) hb.size
  replace n4 := m5
  clear hu m5
  generalize w5 = W7 at *
  go_simp
  refine mix_nil ?_
  go_wp2_with fail
  refine mix_start (fun w' => Blk w' w3.heap.size (encs .u8 X) 25 ∧ Blk w' (w3.heap.size + 1) (encs .u8 Y) 25) (List.range 4) [2, 3] [0, 1] [] (by kernel_rfl) (by kernel_rfl) (fun d _ _ _ _ h => by cases d <;> exact h) ⟨n3, n4⟩ ?_
  replace m1 := m1.drew
  replace m2 := m2.drew
  replace hb := hb.drew
  generalize W7.drew = w8 at *
  refine mix_load_row rfl rfl rfl rfl 25 _ rfl w3.heap.size rfl _ 25 (0, 0) _ (fun w' hS => hS.1) Try.underlying25 rfl (by rw [encs_size, HXL.out]; exact sizeKey0) ?_
  dsimp only [Act.put]
  refine mix_load_row rfl rfl rfl rfl 25 _ rfl (w3.heap.size + 1) rfl _ 25 (0, 0) _ (fun w' hS => hS.2) Try.underlying25 rfl (by rw [encs_size, HYL.out]; exact sizeKey0) ?_
  refine mix_eff rfl rfl (fun K hK => ?_)
  refine step_store_rowS rfl 25 _ _ rfl _ _ rfl rfl 25 _ m1 (by rw [encs_size, HXL.out]; exact sizeKey0) (by rw [encs_size, encs_size, HXL.out]; rfl) (encs_one _ _) ?_
  refine hK _ _ (fun _ h => ⟨h.1.farRow (by omega) _, h.2.farRow (by omega) _⟩) ?_
  clear hK K
  replace m2 := m2.farRow (show w.heap.size + 1 + 1 ≠ w.heap.size + 1 by omega) (encs .u8 X)
  replace hb := below_setRow hb (show w.heap.size ≤ w.heap.size + 1 by omega) (encs .u8 X)
  replace m1 := m1.row (encs .u8 X)
  generalize w8.setRow (w.heap.size + 1) (encs .u8 X) = w9 at *
  refine mix_eff rfl rfl (fun K hK => ?_)
  refine step_store_rowS rfl 25 _ _ rfl _ _ rfl rfl 25 _ m2 (by rw [encs_size, HYL.out]; exact sizeKey0) (by rw [encs_size, encs_size, HYL.out]; rfl) (encs_one _ _) ?_
  refine hK _ _ (fun _ h => ⟨h.1.farRow (by omega) _, h.2.farRow (by omega) _⟩) ?_
  clear hK K
  replace m1 := m1.farRow (show w.heap.size + 1 ≠ w.heap.size + 1 + 1 by omega) (encs .u8 Y)
  replace hb := below_setRow hb (show w.heap.size ≤ w.heap.size + 1 + 1 by omega) (encs .u8 Y)
  replace m2 := m2.row (encs .u8 Y)
  generalize w9.setRow (w.heap.size + 1 + 1) (encs .u8 Y) = wx at *
  refine mix_nil ?_
  go_simp
  go_wp2_with fail
  refine bodyPost_ret (results_cell_cell rfl _ _ _ _ _ _ _ _ _ _ _ _ rfl rfl m1 m2 Try.underlying25 rfl (by rw [encs_size, HXL.out]; exact sizeKey0) Try.underlying25 rfl (by rw [encs_size, HYL.out]; exact sizeKey0)) rfl ?_
  exact ⟨by rw [HX.out, HY.out], hb⟩
end Go.Proofs.Ytgcdjickkbiglaa
