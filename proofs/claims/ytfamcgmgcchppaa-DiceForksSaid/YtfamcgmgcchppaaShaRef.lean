/- The reference's Sum. -/
import Derived.Test.YtfamcgmgcchppaaShaRefP
import Derived.Test.YtfamcgmgcchppaaAppW
namespace Go.Proofs.Ytfamcgmgcchppaa
open Go.RowKit
set_option linter.unusedVariables false
set_option linter.unusedSimpArgs false
theorem not32 (x : BitVec 32) : bits BinOp.xor IntKind.u32 (if IntKind.u32.signed = true then -1 else IntKind.u32.max) (wb x) = wb (~~~x) := by
  have h := bits_xor_u32 (BitVec.allOnes 32) x
  rw [BitVec.allOnes_xor] at h
  exact h
def S8.refT (s : S8) (k x : BitVec 32) : BitVec 32 := s.h + ug1 s.e + ((s.e &&& s.f) ^^^ (~~~s.e &&& s.g)) + k + x
theorem S8.refT_eq (s : S8) (k x : BitVec 32) : s.refT k x = s.t k x := by unfold S8.refT S8.t; rw [shCh_ref]
def S8.refU (s : S8) : BitVec 32 := ug0 s.a + ((s.a &&& s.b) ^^^ (s.a &&& s.c) ^^^ (s.b &&& s.c))
theorem S8.refU_eq (s : S8) : s.refU = s.u := by unfold S8.refU S8.u; rw [shMaj_ref]
/-- The hash's bytes when i words and n bytes of the next one are there. -/
def outN (l : List (BitVec 32)) (i n : Nat) : List (BitVec 8) := outW (l.take i) ++ (be8 (l.getD i 0)).take n ++ List.replicate (32 - 4 * i - n) 0
theorem outN_zero (l : List (BitVec 32)) (i : Nat) : outN l i 0 = outA l i := by simp [outN, outA]
theorem outN_length (l : List (BitVec 32)) (h : l.length = 8) (i n : Nat) (hi : i < 8) (hn : n ≤ 4) : (outN l i n).length = 32 := by
  simp only [outN, List.length_append, outW_length, List.length_take, List.length_replicate, be8, List.length_cons, List.length_nil]
  omega
theorem outN_four (l : List (BitVec 32)) (h : l.length = 8) (i : Nat) (hi : i < 8) : outN l i 4 = outA l (i + 1) := by
  have e2 : l.take (i + 1) = l.take i ++ [l.getD i 0] := by
    rw [List.take_succ_eq_append_getElem (by omega)]
    simp [List.getD, List.getElem?_eq_getElem (show i < l.length by omega)]
  have e4 : outW (l.take (i + 1)) = outW (l.take i) ++ be8 (l.getD i 0) := by rw [e2]; simp [outW]
  unfold outN outA
  rw [e4, show 32 - 4 * i - 4 = 32 - 4 * (i + 1) by omega]
  rfl
theorem outN_set (l : List (BitVec 32)) (h : l.length = 8) (i n : Nat) (hi : i < 8) (hn : n < 4) : (outN l i n).set (4 * i + n) ((l.getD i 0 >>> (24 - 8 * n)).setWidth 8) = outN l i (n + 1) := by
  have e1 : (outW (l.take i) ++ (be8 (l.getD i 0)).take n).length = 4 * i + n := by
    simp only [List.length_append, outW_length, List.length_take, be8, List.length_cons, List.length_nil]
    omega
  unfold outN
  rw [List.set_append_right _ _ (by omega), e1, Nat.sub_self, show 32 - 4 * i - n = (32 - 4 * i - (n + 1)) + 1 by omega, List.replicate_succ, List.set_cons_zero]
  have e3 : (be8 (l.getD i 0)).take (n + 1) = (be8 (l.getD i 0)).take n ++ [(l.getD i 0 >>> (24 - 8 * n)).setWidth 8] := by
    have : n = 0 ∨ n = 1 ∨ n = 2 ∨ n = 3 := by omega
    rcases this with rfl | rfl | rfl | rfl <;> simp [be8]
  rw [e3]
  simp
attribute [local go_sem] shr_32 conv32_8s shl24 shl16 shl8 shr3 shr10 conv8_32 bits_or_u32 bits_xor_u32 bits_and_u32 add_u32 not32
set_option maxRecDepth 100000 in
set_option maxHeartbeats 16000000 in
theorem rsum_any (b : List (BitVec 8)) (A : Option Addr) (cap : Nat) (w : World) (hR : Rd w .u8 A b) (hc : b.length ≤ cap) (hlen : b.length ≤ 140737488500000) :
    Calls Try.prog 28 #[.slice A b.length cap] w fun e w' => e = .returned (.agg (encs .u8 (sha b))) ∧ Below w.heap.size w w' := by
  have HA : Hid (Arg w (.slice A b.length cap) b) := ⟨A, cap, rfl, hc, hR⟩
  have HKL := Lib.hid shK_length
  have HHL := Lib.hid (S8.l_length shH)
  have hpl : (shaPad b.length).length ≤ 72 := by rw [shaPad_length]; omega
  have HP := Lib.hid hpl
  have HLE := Lib.hid hlen
  have HM : Hid ((b ++ shaPad b.length).length ≤ 140737488500072) := by show _ ≤ _; rw [List.length_append]; omega
  have HW : Hid ((b ++ shaPad b.length).length % 64 = 0) := by show _ = _; rw [List.length_append]; exact shaPad_whole _
  have HS : Hid (sha b = outW (runs ((b ++ shaPad b.length).length / 64) shH (b ++ shaPad b.length)).l) := rfl
  clear hR hc hlen hpl
  have hzk := Lib.hid (rfl : (List.replicate 64 (0 : BitVec 32)).length = 64)
  go_enter Try.func28, Try.ntmps28
  go_wp2_with fail
  have hb : Below w.heap.size w (w.alloc (.cells (encs .u8 z32s) 41)) := (Below.refl _ _).alloc (Nat.le_refl _) _
  have hB2 : Blk (w.alloc (.cells (encs .u8 z32s) 41)) w.heap.size (encs .u8 z32s) 41 := Blk.new _ _ _
  have ha := HA.out.below hb
  refine (constants_any (w.alloc (.cells (encs .u8 z32s) 41))).mono ?_
  rintro e w1 ⟨rfl, hn⟩
  replace hB2 := hB2.below hn hB2.lt
  replace ha := ha.below hn
  replace hb := hb.trans (hn.mono hb.size)
  clear hn
  have hlt2 := hB2.lt
  have hB3 : Blk ((w1.alloc (.cells (encs .u32 (List.replicate 64 (0 : BitVec 32))) 83)).setRow w1.heap.size (encs .u32 shK)) w1.heap.size (encs .u32 shK) 83 := (Blk.new _ _ _).row _
  have hN3 : Blk (w1.alloc (.cells (encs .u32 (List.replicate 64 (0 : BitVec 32))) 83)) w1.heap.size (encs .u32 (List.replicate 64 (0 : BitVec 32))) 83 := Blk.new _ _ _
  have hn : Below w1.heap.size w1 ((w1.alloc (.cells (encs .u32 (List.replicate 64 (0 : BitVec 32))) 83)).setRow w1.heap.size (encs .u32 shK)) := below_setRow ((Below.refl _ _).alloc (Nat.le_refl _) _) (Nat.le_refl _) _
  replace hB2 := hB2.below hn hB2.lt
  replace ha := ha.below hn
  replace hb := hb.trans (hn.mono hb.size)
  clear hn
  have hb0 : OwnB (((w1.alloc (.cells (encs .u32 (List.replicate 64 (0 : BitVec 32))) 83)).setRow w1.heap.size (encs .u32 shK)).alloc (.cells #[] 5)) ((w1.alloc (.cells (encs .u32 (List.replicate 64 (0 : BitVec 32))) 83)).setRow w1.heap.size (encs .u32 shK)).heap.size (.slice (some ⟨((w1.alloc (.cells (encs .u32 (List.replicate 64 (0 : BitVec 32))) 83)).setRow w1.heap.size (encs .u32 shK)).heap.size, 0, none⟩) 0 0) [] := OwnB.empty (Nat.le_refl _)
  go_wp2_with (first | (refine wpList_store_row rfl 83 _ _ rfl _ _ rfl rfl 83 _ hN3 (by rw [encs_size, HKL.out]; exact size64w) (by rw [encs_size, encs_size, HKL.out]; rfl) (encs_one _ _) ?_; change wpList _ _ _ _ _ ((w1.alloc (.cells (encs .u32 (List.replicate 64 (0 : BitVec 32))) 83)).setRow w1.heap.size (encs .u32 shK)); generalize (w1.alloc (.cells (encs .u32 (List.replicate 64 (0 : BitVec 32))) 83)).setRow w1.heap.size (encs .u32 shK) = w2 at *; generalize w1.heap.size = g3 at *) | (at_builtin; refine wpList_appw rfl _ _ rfl w2.heap.size _ _ rfl hb0 _ b rfl (ha.below ((Below.refl _ _).alloc (Nat.le_refl _) _)) (by have := HLE.out; simp; omega) (by simp) ?_; intro v3 w3 h3 hn3; rw [List.nil_append] at h3) | fail)
  have hn : Below w2.heap.size w2 w3 := ((Below.refl w2.heap.size w2).alloc (Nat.le_refl _) _).trans hn3
  have hlt2' := hB2.lt
  have hlt3 := hB3.lt
  replace hB2 := hB2.below hn hlt2'
  replace hB3 := hB3.below hn hlt3
  replace hb := hb.trans (hn.mono hb.size)
  have hs2 := hn.size
  clear hn hn3 hb0 ha hN3
  refine (rpad_any b.length (by have := HLE.out; omega) w3).mono ?_
  rintro e w4 ⟨v4, rfl, h4, hn⟩
  replace h4 : OwnB w4 _ v4 (shaPad b.length) := h4
  replace hB2 := hB2.below hn hB2.lt
  replace hB3 := hB3.below hn hB3.lt
  replace h3 := h3.below hn
  replace hb := hb.trans (hn.mono hb.size)
  have hs4 := Nat.le_trans hs2 hn.size
  clear hn
  obtain ⟨A4, c4, rfl, _, _⟩ := id h4.arg
  go_wp2_with (first | (at_builtin; refine wpList_appw rfl _ _ rfl w2.heap.size _ _ rfl h3 _ _ rfl h4.arg (by have := HLE.out; have := HP.out; omega) hs4 ?_; intro v5 w5 h5 hn5; obtain ⟨A5, c5, rfl, hc5, hR5⟩ := h5.arg) | fail)
  replace hB2 := hB2.below hn5 hlt2'
  replace hB3 := hB3.below hn5 hlt3
  replace hb := hb.trans (hn5.mono (by omega))
  clear h3 h4
  have hs5 := hn5.size
  clear hn5
  refine (begin_any w5).mono ?_
  rintro e w6 ⟨rfl, hn⟩
  replace hB2 := hB2.below hn hB2.lt
  replace hB3 := hB3.below hn hB3.lt
  replace hR5 := hR5.below hn
  replace h5 := h5.below hn
  replace hb := hb.trans (hn.mono hb.size)
  clear hn
  have hF5 : ∀ a, A5 = some a → a.block < w6.heap.size := fun a ha => by
    obtain ⟨A', c', he, _, _, _, _, hA⟩ := owns_form h5
    cases he
    exact (hA a ha).2.2.2.1
  have hg36 : g3 < w6.heap.size := hB3.lt
  have hg26 : w.heap.size < w6.heap.size := hB2.lt
  clear h5
  have hN4 : Blk (w6.alloc (.cells (encs .u32 (List.replicate 8 (0 : BitVec 32))) 85)) w6.heap.size (encs .u32 (List.replicate 8 (0 : BitVec 32))) 85 := Blk.new _ _ _
  have hB4 := hN4.row (encs .u32 shH.l)
  have hn : Below w6.heap.size w6 ((w6.alloc (.cells (encs .u32 (List.replicate 8 (0 : BitVec 32))) 85)).setRow w6.heap.size (encs .u32 shH.l)) := below_setRow ((Below.refl _ _).alloc (Nat.le_refl _) _) (Nat.le_refl _) _
  replace hB2 := hB2.below hn hB2.lt
  replace hB3 := hB3.below hn hB3.lt
  replace hR5 := hR5.below hn
  replace hb := hb.trans (hn.mono hb.size)
  clear hn
  go_wp2_with (first | (refine wpList_store_row rfl 85 _ _ rfl _ _ rfl rfl 85 _ hN4 (by rw [encs_size, HHL.out]; exact size8w) (by rw [encs_size, encs_size, HHL.out]; rfl) (encs_one _ _) ?_; change wpList _ _ _ _ _ ((w6.alloc (.cells (encs .u32 (List.replicate 8 (0 : BitVec 32))) 85)).setRow w6.heap.size (encs .u32 shH.l)); generalize (w6.alloc (.cells (encs .u32 (List.replicate 8 (0 : BitVec 32))) 85)).setRow w6.heap.size (encs .u32 shH.l) = w7 at *; generalize w6.heap.size = g4 at *) | fail)
  clear hN4
  dsimp only [Act.put]
  rw [show b.length + (shaPad b.length).length = (b ++ shaPad b.length).length from (List.length_append ..).symm]
  generalize b ++ shaPad b.length = M at *
  obtain ⟨F, hF⟩ : ∃ F, F = runs (M.length / 64) shH M := ⟨_, rfl⟩
  have HS2 : Hid (sha b = outW F.l) := by show _ = _; rw [hF]; exact HS.out
  go_loopw [0] (fun v wr => ∃ (s : S8) (b1 : List (BitVec 8)) (A1 : Option Addr) (c1 : Nat), v = .slice A1 b1.length c1 ∧ b1.length % 64 = 0 ∧ b1.length ≤ c1 ∧ b1.length ≤ 281474976710656 ∧ Rd wr .u8 A1 b1 ∧ (∀ a, A1 = some a → a.block < g4) ∧ Blk wr w.heap.size (encs .u8 z32s) 41 ∧ Blk wr g3 (encs .u32 shK) 83 ∧ Blk wr g4 (encs .u32 s.l) 85 ∧ runs (b1.length / 64) s b1 = F ∧ Below w.heap.size w wr) (fun v _ => sliceLen v)
  case atStart => exact ⟨shH, M, A5, c5, rfl, HW.out, hc5, by have := HM.out; omega, hR5, hF5, hB2, hB3, hB4, hF.symm, hb⟩
  case round =>
    have hge4 : w.heap.size ≤ g4 := Nat.le_of_lt hg26
    clear hR5 hF5 hB2 hB3 hB4 hb HS HW hF hc5
    obtain ⟨s, b1, A1, c1, rfl, h64, hc1, hcap1, hR, hfar, hB2, hB3, hB4, hrun, hb⟩ := hrel
    have HRUN := Lib.hid hrun
    clear hrun
    by_cases h0 : 0 < b1.length
    · have i1 : (0 : Int) < (b1.length : Int) := by omega
      have hge : 64 ≤ b1.length := by omega
      have hgl : (64 : Int) ≤ (b1.length : Int) := by omega
      obtain ⟨ga, oa, rfl, _⟩ := hR 0 (by omega)
      have HLEN := Lib.hid hge
      generalize hbl : b1.length = len at *
      have HBL := Lib.hid hbl
      clear hbl
      obtain ⟨wo, rfl⟩ : ∃ wo : World, wo = wr := ⟨_, rfl⟩
      have HR := Lib.hid hR
      have HB2 := Lib.hid hB2
      have HB3 := Lib.hid hB3
      have HB4 := Lib.hid hB4
      have HBO := Lib.hid hb
      have HLT2 := Lib.hid hB2.lt
      have HLT3 := Lib.hid hB3.lt
      have HLT4 := Lib.hid hB4.lt
      clear hR hB2 hB3 hB4 hb
      go_wp2_with fail
      go_loopw [34] (fun i wr => ∃ k : Nat, k ≤ 64 ∧ i = .int .i64 k ∧ Blk wr wo.heap.size (encs .u32 (wArr b1 k)) 83 ∧ Below wo.heap.size wo wr) (fun i _ => 64 - (intOf i).toNat)
      case atStart => exact ⟨0, by omega, rfl, Blk.new _ _ _, (Below.refl _ _).alloc (Nat.le_refl _) _⟩
      case round =>
        obtain ⟨k, hk, rfl, hW, hb⟩ := hrel
        by_cases hlt : k < 16
        · have i1 : (k : Int) < 16 := by omega
          have i0 : (k : Int) < 64 := by omega
          have i2 : (0 : Int) ≤ 4 * (k : Int) := by omega
          have i7 : IntKind.i64.wrap (4 * (k : Int)) = 4 * (k : Int) := IntWalk.i64_in _ (by omega)
          have i8 : IntKind.i64.wrap (4 * (k : Int) + 1) = 4 * (k : Int) + 1 := IntWalk.i64_in _ (by omega)
          have i9 : IntKind.i64.wrap (4 * (k : Int) + 2) = 4 * (k : Int) + 2 := IntWalk.i64_in _ (by omega)
          have i10 : IntKind.i64.wrap (4 * (k : Int) + 3) = 4 * (k : Int) + 3 := IntWalk.i64_in _ (by omega)
          have j0 : (4 * (k : Int)).toNat = 4 * k := by omega
          have j1 : (4 * (k : Int) + 1).toNat = 4 * k + 1 := by omega
          have j2 : (4 * (k : Int) + 2).toNat = 4 * k + 2 := by omega
          have j3 : (4 * (k : Int) + 3).toNat = 4 * k + 3 := by omega
          have k1 : (0 : Int) ≤ 4 * (k : Int) + 1 := by omega
          have k2 : (0 : Int) ≤ 4 * (k : Int) + 2 := by omega
          have k3 : (0 : Int) ≤ 4 * (k : Int) + 3 := by omega
          have i3 : 4 * (k : Int) < (len : Int) := by omega
          have i4 : 4 * (k : Int) + 1 < (len : Int) := by omega
          have i5 : 4 * (k : Int) + 2 < (len : Int) := by omega
          have i6 : 4 * (k : Int) + 3 < (len : Int) := by omega
          have HN : Hid (be32 b1 k = (b1.getD (4 * k) 0).setWidth 32 <<< 24 ||| (b1.getD (4 * k + 1) 0).setWidth 32 <<< 16 ||| (b1.getD (4 * k + 2) 0).setWidth 32 <<< 8 ||| (b1.getD (4 * k + 3) 0).setWidth 32) := rfl
          have c0 := rd_at (HR.out.below hb) (4 * k) (by rw [HBL.out]; omega)
          have c1' := rd_at (HR.out.below hb) (4 * k + 1) (by rw [HBL.out]; omega)
          have c2 := rd_at (HR.out.below hb) (4 * k + 2) (by rw [HBL.out]; omega)
          have c3 := rd_at (HR.out.below hb) (4 * k + 3) (by rw [HBL.out]; omega)
          generalize b1.getD (4 * k) 0 = x0 at *
          generalize b1.getD (4 * k + 1) 0 = x1 at *
          generalize b1.getD (4 * k + 2) 0 = x2 at *
          generalize b1.getD (4 * k + 3) 0 = x3 at *
          go_wp2_with fail
          refine mix_start (fun w' => Below wr.heap.size wr w') (List.range 36) [35] [5, 13, 22, 31] [35] (by kernel_rfl) (by kernel_rfl) (fun d _ _ _ _ h => by cases d <;> exact h) ?_ ?_
          · exact (Below.refl _ _).drew
          repeat (refine mix_pure rfl rfl (fun K hK => ?_); go_simp; refine hK _ ?_; clear hK K)
          refine mix_read (.int .u8 (wb x0)) rfl rfl rfl rfl (fun w' hS => ?_) ?_
          · have hc' := below_cell hS c0
            go_simp
          repeat (refine mix_pure rfl rfl (fun K hK => ?_); go_simp; refine hK _ ?_; clear hK K)
          refine mix_read (.int .u8 (wb x1)) rfl rfl rfl rfl (fun w' hS => ?_) ?_
          · have hc' := below_cell hS c1'
            go_simp
          repeat (refine mix_pure rfl rfl (fun K hK => ?_); go_simp; refine hK _ ?_; clear hK K)
          refine mix_read (.int .u8 (wb x2)) rfl rfl rfl rfl (fun w' hS => ?_) ?_
          · have hc' := below_cell hS c2
            go_simp
          repeat (refine mix_pure rfl rfl (fun K hK => ?_); go_simp; refine hK _ ?_; clear hK K)
          refine mix_read (.int .u8 (wb x3)) rfl rfl rfl rfl (fun w' hS => ?_) ?_
          · have hc' := below_cell hS c3
            go_simp
          repeat (refine mix_pure rfl rfl (fun K hK => ?_); go_simp; refine hK _ ?_; clear hK K)
          have h1 := hW.drew.word k (by rw [wArr_length _ _ (by omega)]; omega)
          have h2 := hW.drew.frozen k
          refine mix_ds rfl rfl rfl (fun K hK => ?_)
          go_simp
          refine hK _ _ ?_
          clear hK K
          clear h1 h2
          repeat (refine mix_pure rfl rfl (fun K hK => ?_); go_simp; refine hK _ ?_; clear hK K)
          refine mix_nil ?_
          go_wp2_with fail
          go_roundw
          case rel =>
            have h3 := hW.drew.put k (be32 b1 k)
            rw [wArr_low b1 k (by omega), HN.out] at h3
            first | exact ⟨k + 1, by omega, by go_num, h3, below_setCell hb.drew (Nat.le_refl _) _ _⟩ | ((repeat apply Exists.intro); exact ⟨⟨k + 1, by omega, by go_num, h3, below_setCell hb.drew (Nat.le_refl _) _ _⟩, rfl⟩)
          case measure => simp [intOf]; omega
        · by_cases hlt64 : k < 64
          · have i1 : (k : Int) < 64 := by omega
            have i2 : ¬ (k : Int) < 16 := by omega
            have c15 := hW.word (k - 15) (by rw [wArr_length _ _ (by omega)]; omega)
            have c2 := hW.word (k - 2) (by rw [wArr_length _ _ (by omega)]; omega)
            have c16 := hW.word (k - 16) (by rw [wArr_length _ _ (by omega)]; omega)
            have c7 := hW.word (k - 7) (by rw [wArr_length _ _ (by omega)]; omega)
            rw [wArr_getD _ _ _ (by omega)] at c15 c2 c16 c7
            have HN : Hid (wnext (wl b1 k) k = (wl b1 k).getD (k - 16) 0 + (rotr ((wl b1 k).getD (k - 15) 0) 7 ^^^ rotr ((wl b1 k).getD (k - 15) 0) 18 ^^^ (wl b1 k).getD (k - 15) 0 >>> 3) + (wl b1 k).getD (k - 7) 0 + (rotr ((wl b1 k).getD (k - 2) 0) 17 ^^^ rotr ((wl b1 k).getD (k - 2) 0) 19 ^^^ (wl b1 k).getD (k - 2) 0 >>> 10)) := by
              show _ = _
              unfold wnext lg0 lg1
              rw [BitVec.add_assoc ((wl b1 k).getD (k - 16) 0), BitVec.add_comm ((wl b1 k).getD (k - 7) 0), ← BitVec.add_assoc]
            generalize (wl b1 k).getD (k - 15) 0 = x at *
            generalize (wl b1 k).getD (k - 2) 0 = y at *
            generalize (wl b1 k).getD (k - 16) 0 = x16 at *
            generalize (wl b1 k).getD (k - 7) 0 = x7 at *
            have i3 : IntKind.i64.wrap ((k : Int) - 15) = ((k - 15 : Nat) : Int) := by rw [IntWalk.i64_in _ (by omega)]; omega
            have i4 : IntKind.i64.wrap ((k : Int) - 2) = ((k - 2 : Nat) : Int) := by rw [IntWalk.i64_in _ (by omega)]; omega
            have i5 : IntKind.i64.wrap ((k : Int) - 16) = ((k - 16 : Nat) : Int) := by rw [IntWalk.i64_in _ (by omega)]; omega
            have i6 : IntKind.i64.wrap ((k : Int) - 7) = ((k - 7 : Nat) : Int) := by rw [IntWalk.i64_in _ (by omega)]; omega
            have j3 : ((k - 15 : Nat) : Int) < 64 := by omega
            have j4 : ((k - 2 : Nat) : Int) < 64 := by omega
            have j5 : ((k - 16 : Nat) : Int) < 64 := by omega
            have j6 : ((k - 7 : Nat) : Int) < 64 := by omega
            go_wp2_with fail
            refine mix_start (fun w' => Below wr.heap.size wr w') (List.range 10) [] [3, 7] [] (by kernel_rfl) (by kernel_rfl) (fun d _ _ _ _ h => by cases d <;> exact h) ?_ ?_
            · exact (Below.refl _ _).drew
            repeat (refine mix_pure rfl rfl (fun K hK => ?_); go_simp; refine hK _ ?_; clear hK K)
            refine mix_read (.int .u32 (wb x)) rfl rfl rfl rfl (fun w' hS => ?_) ?_
            · have hc' := below_cell hS c15
              go_simp
            repeat (refine mix_pure rfl rfl (fun K hK => ?_); go_simp; refine hK _ ?_; clear hK K)
            refine mix_read (.int .u32 (wb y)) rfl rfl rfl rfl (fun w' hS => ?_) ?_
            · have hc' := below_cell hS c2
              go_simp
            repeat (refine mix_pure rfl rfl (fun K hK => ?_); go_simp; refine hK _ ?_; clear hK K)
            refine mix_nil ?_
            go_wp2_with fail
            refine mix_start (fun w' => Below wr.heap.size wr w') [0, 1, 2, 3, 4, 5, 7, 10, 11, 14, 15, 16, 17, 19, 21, 24, 25, 6, 8, 9, 12, 13, 18, 20, 22, 23, 26, 27, 28, 29] [6, 8, 20, 22, 29] [4, 17] [29] (by kernel_rfl) (by kernel_rfl) (fun d _ _ _ _ h => by cases d <;> exact h) ?_ ?_
            · exact (Below.refl _ _).drew.drew
            repeat (refine mix_pure rfl rfl (fun K hK => ?_); go_simp; refine hK _ ?_; clear hK K)
            refine mix_read (.int .u32 (wb x16)) rfl rfl rfl rfl (fun w' hS => ?_) ?_
            · have hc' := below_cell hS c16
              go_simp
            repeat (refine mix_pure rfl rfl (fun K hK => ?_); go_simp; refine hK _ ?_; clear hK K)
            refine mix_read (.int .u32 (wb x7)) rfl rfl rfl rfl (fun w' hS => ?_) ?_
            · have hc' := below_cell hS c7
              go_simp
            repeat (refine mix_pure rfl rfl (fun K hK => ?_); go_simp; refine hK _ ?_; clear hK K)
            refine mix_eff rfl rfl (fun K hK => ?_)
            go_simp
            refine (right_any x 7 (by omega) _).mono ?_
            rintro e w' ⟨rfl, rfl⟩
            refine hK _ _ (fun _ h => h.drew) ?_
            clear hK K
            repeat (refine mix_pure rfl rfl (fun K hK => ?_); go_simp; refine hK _ ?_; clear hK K)
            refine mix_eff rfl rfl (fun K hK => ?_)
            go_simp
            refine (right_any x 18 (by omega) _).mono ?_
            rintro e w' ⟨rfl, rfl⟩
            refine hK _ _ (fun _ h => h.drew) ?_
            clear hK K
            repeat (refine mix_pure rfl rfl (fun K hK => ?_); go_simp; refine hK _ ?_; clear hK K)
            refine mix_eff rfl rfl (fun K hK => ?_)
            go_simp
            refine (right_any y 17 (by omega) _).mono ?_
            rintro e w' ⟨rfl, rfl⟩
            refine hK _ _ (fun _ h => h.drew) ?_
            clear hK K
            repeat (refine mix_pure rfl rfl (fun K hK => ?_); go_simp; refine hK _ ?_; clear hK K)
            refine mix_eff rfl rfl (fun K hK => ?_)
            go_simp
            refine (right_any y 19 (by omega) _).mono ?_
            rintro e w' ⟨rfl, rfl⟩
            refine hK _ _ (fun _ h => h.drew) ?_
            clear hK K
            repeat (refine mix_pure rfl rfl (fun K hK => ?_); go_simp; refine hK _ ?_; clear hK K)
            replace hW : Blk wr.drew.drew.drew.drew.drew.drew wo.heap.size (encs .u32 (wArr b1 k)) 83 := hW
            replace hb := hb.drew.drew.drew.drew.drew.drew
            generalize wr.drew.drew.drew.drew.drew.drew = wz at *
            have h1 := hW.word k (by rw [wArr_length _ _ (by omega)]; omega)
            have h2 := hW.frozen k
            refine mix_ds rfl rfl rfl (fun K hK => ?_)
            go_simp
            refine hK _ _ ?_
            clear hK K
            clear h1 h2
            repeat (refine mix_pure rfl rfl (fun K hK => ?_); go_simp; refine hK _ ?_; clear hK K)
            refine mix_nil ?_
            go_wp2_with fail
            go_roundw
            case rel =>
              have h3 := hW.put k (wnext (wl b1 k) k)
              rw [wArr_high b1 k (by omega) (by omega), HN.out] at h3
              first | exact ⟨k + 1, by omega, by go_num, h3, below_setCell hb (Nat.le_refl _) _ _⟩ | ((repeat apply Exists.intro); exact ⟨⟨k + 1, by omega, by go_num, h3, below_setCell hb (Nat.le_refl _) _ _⟩, rfl⟩)
            case measure => simp [intOf]; omega
          · obtain rfl : k = 64 := by omega
            rw [wArr_all] at hW
            have HWL := Lib.hid (wl_length b1 64)
            have HRS : Hid (∀ k, rounds b1 s (k + 1) = (rounds b1 s k).round (shK.getD k 0) ((wl b1 64).getD k 0)) := fun k => rfl
            have HC : Hid (comp s b1 = s.add (rounds b1 s 64)) := rfl
            have HR0 : Hid (rounds b1 s 0 = s) := rfl
            generalize wl b1 64 = WL at *
            have hB2 := HB2.out.below hb HLT2.out
            have hB3 := HB3.out.below hb HLT3.out
            have hB4 := HB4.out.below hb HLT4.out
            have hbw := HBO.out.trans (hb.mono HBO.out.size)
            have hR := HR.out.below hb
            have hN9 : Blk (wr.alloc (.cells (encs .u32 (List.replicate 8 (0 : BitVec 32))) 85)) wr.heap.size (encs .u32 (List.replicate 8 (0 : BitVec 32))) 85 := Blk.new _ _ _
            have hB9 := hN9.row (encs .u32 s.l)
            have hn : Below wr.heap.size wr ((wr.alloc (.cells (encs .u32 (List.replicate 8 (0 : BitVec 32))) 85)).setRow wr.heap.size (encs .u32 s.l)) := below_setRow ((Below.refl _ _).alloc (Nat.le_refl _) _) (Nat.le_refl _) _
            have hg59 := hW.lt
            have hg29 := hB2.lt
            have hg39 := hB3.lt
            have hg49 := hB4.lt
            have hga9 : ga < wr.heap.size := by
              obtain ⟨_, _, he, hcell⟩ := hR 0 (by rw [HBL.out]; omega)
              cases he
              exact World.block_lt_of_cell? _ _ hcell
            replace hB2 := hB2.below hn hg29
            replace hB3 := hB3.below hn hg39
            have hB4' := hB4.below hn hg49
            replace hW := hW.below hn hg59
            replace hR := hR.below hn
            replace hbw := hbw.trans (hn.mono hbw.size)
            clear hn hb HR HB2 HB3 HB4 HBO HLT2 HLT3 HLT4
            go_wp2_with (first | (refine wpList_load_row rfl 85 _ rfl g4 rfl 85 _ (0, 0) _ hB4 Try.underlying85 rfl (by rw [encs_size, S8.l_length]; exact size8w) ?_) | (refine wpList_store_row rfl 85 _ _ rfl _ _ rfl rfl 85 _ hN9 (by rw [encs_size, S8.l_length]; exact size8w) (by rw [encs_size, encs_size, S8.l_length]; rfl) (encs_one _ _) ?_; change wpList _ _ _ _ _ ((wr.alloc (.cells (encs .u32 (List.replicate 8 (0 : BitVec 32))) 85)).setRow wr.heap.size (encs .u32 s.l)); generalize (wr.alloc (.cells (encs .u32 (List.replicate 8 (0 : BitVec 32))) 85)).setRow wr.heap.size (encs .u32 s.l) = w9 at *; generalize wr.heap.size = g9 at *) | fail)
            clear hN9 hB4
            go_loopw [113] (fun i wr => ∃ k : Nat, k ≤ 64 ∧ i = .int .i64 k ∧ Blk wr g9 (encs .u32 (rounds b1 s k).l) 85 ∧ Upd g9 w9 wr) (fun i _ => 64 - (intOf i).toNat)
            case atStart => exact ⟨0, by omega, rfl, hB9, Upd.refl _ _⟩
            case round =>
              clear hB9 hlt hlt64 hk
              obtain ⟨k, hk, rfl, hB9, hu⟩ := hrel
              by_cases hlt : k < 64
              · have i1 : (k : Int) < 64 := by omega
                have ck := (hB3.upd hu (by omega)).word k (by rw [HKL.out]; omega)
                have cw := (hW.upd hu (by omega)).word k (by rw [HWL.out]; omega)
                have HRk := Lib.hid (HRS.out k)
                generalize rounds b1 s k = r at *
                generalize WL.getD k 0 = xx at *
                generalize shK.getD k 0 = kk at *
                have s0 : wr.cell? ⟨g9, 0, none⟩ = some (.int .u32 (wb r.a)) := hB9.word 0 (by rw [S8.l_length]; omega)
                have s1 : wr.cell? ⟨g9, 1, none⟩ = some (.int .u32 (wb r.b)) := hB9.word 1 (by rw [S8.l_length]; omega)
                have s2 : wr.cell? ⟨g9, 2, none⟩ = some (.int .u32 (wb r.c)) := hB9.word 2 (by rw [S8.l_length]; omega)
                have s3 : wr.cell? ⟨g9, 3, none⟩ = some (.int .u32 (wb r.d)) := hB9.word 3 (by rw [S8.l_length]; omega)
                have s4 : wr.cell? ⟨g9, 4, none⟩ = some (.int .u32 (wb r.e)) := hB9.word 4 (by rw [S8.l_length]; omega)
                have s5 : wr.cell? ⟨g9, 5, none⟩ = some (.int .u32 (wb r.f)) := hB9.word 5 (by rw [S8.l_length]; omega)
                have s6 : wr.cell? ⟨g9, 6, none⟩ = some (.int .u32 (wb r.g)) := hB9.word 6 (by rw [S8.l_length]; omega)
                have s7 : wr.cell? ⟨g9, 7, none⟩ = some (.int .u32 (wb r.h)) := hB9.word 7 (by rw [S8.l_length]; omega)
                have HT : Hid (r.h + (rotr r.e 6 ^^^ rotr r.e 11 ^^^ rotr r.e 25) + (r.e &&& r.f ^^^ ~~~r.e &&& r.g) + kk + xx = r.t kk xx) := S8.refT_eq r kk xx
                have HU : Hid ((rotr r.a 2 ^^^ rotr r.a 13 ^^^ rotr r.a 22) + (r.a &&& r.b ^^^ r.a &&& r.c ^^^ r.b &&& r.c) = r.u) := S8.refU_eq r
                go_wp2_with fail
                refine mix_start (fun w' => Below wr.heap.size wr w') (List.range 6) [] [1, 3] [] (by kernel_rfl) (by kernel_rfl) (fun d _ _ _ _ h => by cases d <;> exact h) ?_ ?_
                · exact (Below.refl _ _).drew
                repeat (refine mix_pure rfl rfl (fun K hK => ?_); go_simp; refine hK _ ?_; clear hK K)
                refine mix_read (.int .u32 (wb r.a)) rfl rfl rfl rfl (fun w' hS => ?_) ?_
                · have hc' := below_cell hS s0
                  go_simp
                repeat (refine mix_pure rfl rfl (fun K hK => ?_); go_simp; refine hK _ ?_; clear hK K)
                refine mix_read (.int .u32 (wb r.e)) rfl rfl rfl rfl (fun w' hS => ?_) ?_
                · have hc' := below_cell hS s4
                  go_simp
                repeat (refine mix_pure rfl rfl (fun K hK => ?_); go_simp; refine hK _ ?_; clear hK K)
                refine mix_nil ?_
                go_wp2_with fail
                refine mix_start (fun w' => Below wr.heap.size wr w') [0, 1, 2, 4, 7, 11, 12, 13, 14, 15, 16, 17, 18, 19, 20, 22, 23, 24, 26, 27, 28, 3, 5, 6, 8, 9, 10, 21, 25, 29, 30] [3, 5, 8] [1, 13, 18, 24, 28] [] (by kernel_rfl) (by kernel_rfl) (fun d _ _ _ _ h => by cases d <;> exact h) ?_ ?_
                · exact (Below.refl _ _).drew.drew
                repeat (refine mix_pure rfl rfl (fun K hK => ?_); go_simp; refine hK _ ?_; clear hK K)
                refine mix_read (.int .u32 (wb r.h)) rfl rfl rfl rfl (fun w' hS => ?_) ?_
                · have hc' := below_cell hS s7
                  go_simp
                repeat (refine mix_pure rfl rfl (fun K hK => ?_); go_simp; refine hK _ ?_; clear hK K)
                refine mix_read (.int .u32 (wb r.f)) rfl rfl rfl rfl (fun w' hS => ?_) ?_
                · have hc' := below_cell hS s5
                  go_simp
                repeat (refine mix_pure rfl rfl (fun K hK => ?_); go_simp; refine hK _ ?_; clear hK K)
                refine mix_read (.int .u32 (wb r.g)) rfl rfl rfl rfl (fun w' hS => ?_) ?_
                · have hc' := below_cell hS s6
                  go_simp
                repeat (refine mix_pure rfl rfl (fun K hK => ?_); go_simp; refine hK _ ?_; clear hK K)
                refine mix_read (.int .u32 (wb kk)) rfl rfl rfl rfl (fun w' hS => ?_) ?_
                · have hc' := below_cell hS ck
                  go_simp
                repeat (refine mix_pure rfl rfl (fun K hK => ?_); go_simp; refine hK _ ?_; clear hK K)
                refine mix_read (.int .u32 (wb xx)) rfl rfl rfl rfl (fun w' hS => ?_) ?_
                · have hc' := below_cell hS cw
                  go_simp
                repeat (refine mix_pure rfl rfl (fun K hK => ?_); go_simp; refine hK _ ?_; clear hK K)
                refine mix_eff rfl rfl (fun K hK => ?_)
                go_simp
                refine (right_any r.e 6 (by omega) _).mono ?_
                rintro e w' ⟨rfl, rfl⟩
                refine hK _ _ (fun _ h => h.drew) ?_
                clear hK K
                repeat (refine mix_pure rfl rfl (fun K hK => ?_); go_simp; refine hK _ ?_; clear hK K)
                refine mix_eff rfl rfl (fun K hK => ?_)
                go_simp
                refine (right_any r.e 11 (by omega) _).mono ?_
                rintro e w' ⟨rfl, rfl⟩
                refine hK _ _ (fun _ h => h.drew) ?_
                clear hK K
                repeat (refine mix_pure rfl rfl (fun K hK => ?_); go_simp; refine hK _ ?_; clear hK K)
                refine mix_eff rfl rfl (fun K hK => ?_)
                go_simp
                refine (right_any r.e 25 (by omega) _).mono ?_
                rintro e w' ⟨rfl, rfl⟩
                refine hK _ _ (fun _ h => h.drew) ?_
                clear hK K
                repeat (refine mix_pure rfl rfl (fun K hK => ?_); go_simp; refine hK _ ?_; clear hK K)
                refine mix_nil ?_
                rw [HT.out]
                replace hB9 : Blk wr.drew.drew.drew.drew.drew g9 (encs .u32 r.l) 85 := hB9
                replace hu := hu.drew.drew.drew.drew.drew
                replace s0 : wr.drew.drew.drew.drew.drew.cell? ⟨g9, 0, none⟩ = some (.int .u32 (wb r.a)) := s0
                replace s1 : wr.drew.drew.drew.drew.drew.cell? ⟨g9, 1, none⟩ = some (.int .u32 (wb r.b)) := s1
                replace s2 : wr.drew.drew.drew.drew.drew.cell? ⟨g9, 2, none⟩ = some (.int .u32 (wb r.c)) := s2
                replace s3 : wr.drew.drew.drew.drew.drew.cell? ⟨g9, 3, none⟩ = some (.int .u32 (wb r.d)) := s3
                replace s5 : wr.drew.drew.drew.drew.drew.cell? ⟨g9, 5, none⟩ = some (.int .u32 (wb r.f)) := s5
                replace s6 : wr.drew.drew.drew.drew.drew.cell? ⟨g9, 6, none⟩ = some (.int .u32 (wb r.g)) := s6
                clear s4 s7 ck cw
                generalize wr.drew.drew.drew.drew.drew = wx at *
                go_wp2_with fail
                refine mix_start (fun w' => Below wx.heap.size wx w') [0, 2, 5, 8, 9, 10, 11, 12, 13, 14, 15, 16, 17, 18, 19, 20, 21, 22, 1, 3, 4, 6, 7, 23, 24] [1, 3, 6] [10, 14, 18, 20] [] (by kernel_rfl) (by kernel_rfl) (fun d _ _ _ _ h => by cases d <;> exact h) ?_ ?_
                · exact (Below.refl _ _).drew
                repeat (refine mix_pure rfl rfl (fun K hK => ?_); go_simp; refine hK _ ?_; clear hK K)
                refine mix_read (.int .u32 (wb r.b)) rfl rfl rfl rfl (fun w' hS => ?_) ?_
                · have hc' := below_cell hS s1
                  go_simp
                repeat (refine mix_pure rfl rfl (fun K hK => ?_); go_simp; refine hK _ ?_; clear hK K)
                refine mix_read (.int .u32 (wb r.c)) rfl rfl rfl rfl (fun w' hS => ?_) ?_
                · have hc' := below_cell hS s2
                  go_simp
                repeat (refine mix_pure rfl rfl (fun K hK => ?_); go_simp; refine hK _ ?_; clear hK K)
                refine mix_read (.int .u32 (wb r.b)) rfl rfl rfl rfl (fun w' hS => ?_) ?_
                · have hc' := below_cell hS s1
                  go_simp
                repeat (refine mix_pure rfl rfl (fun K hK => ?_); go_simp; refine hK _ ?_; clear hK K)
                refine mix_read (.int .u32 (wb r.c)) rfl rfl rfl rfl (fun w' hS => ?_) ?_
                · have hc' := below_cell hS s2
                  go_simp
                repeat (refine mix_pure rfl rfl (fun K hK => ?_); go_simp; refine hK _ ?_; clear hK K)
                refine mix_eff rfl rfl (fun K hK => ?_)
                go_simp
                refine (right_any r.a 2 (by omega) _).mono ?_
                rintro e w' ⟨rfl, rfl⟩
                refine hK _ _ (fun _ h => h.drew) ?_
                clear hK K
                repeat (refine mix_pure rfl rfl (fun K hK => ?_); go_simp; refine hK _ ?_; clear hK K)
                refine mix_eff rfl rfl (fun K hK => ?_)
                go_simp
                refine (right_any r.a 13 (by omega) _).mono ?_
                rintro e w' ⟨rfl, rfl⟩
                refine hK _ _ (fun _ h => h.drew) ?_
                clear hK K
                repeat (refine mix_pure rfl rfl (fun K hK => ?_); go_simp; refine hK _ ?_; clear hK K)
                refine mix_eff rfl rfl (fun K hK => ?_)
                go_simp
                refine (right_any r.a 22 (by omega) _).mono ?_
                rintro e w' ⟨rfl, rfl⟩
                refine hK _ _ (fun _ h => h.drew) ?_
                clear hK K
                repeat (refine mix_pure rfl rfl (fun K hK => ?_); go_simp; refine hK _ ?_; clear hK K)
                refine mix_nil ?_
                rw [HU.out]
                replace hB9 : Blk wx.drew.drew.drew.drew g9 (encs .u32 r.l) 85 := hB9
                replace hu := hu.drew.drew.drew.drew
                replace s1 : wx.drew.drew.drew.drew.cell? ⟨g9, 1, none⟩ = some (.int .u32 (wb r.b)) := s1
                replace s2 : wx.drew.drew.drew.drew.cell? ⟨g9, 2, none⟩ = some (.int .u32 (wb r.c)) := s2
                replace s3 : wx.drew.drew.drew.drew.cell? ⟨g9, 3, none⟩ = some (.int .u32 (wb r.d)) := s3
                replace s5 : wx.drew.drew.drew.drew.cell? ⟨g9, 5, none⟩ = some (.int .u32 (wb r.f)) := s5
                replace s6 : wx.drew.drew.drew.drew.cell? ⟨g9, 6, none⟩ = some (.int .u32 (wb r.g)) := s6
                generalize wx.drew.drew.drew.drew = wy at *
                have HRL := Lib.hid (S8.l_length (r.round kk xx))
                have hbu : Hid (∀ wx, (Instr.build 85 #[(0, .int .u32 (wb (r.t kk xx + r.u))), (1, .int .u32 (wb r.a)), (2, .int .u32 (wb r.b)), (3, .int .u32 (wb r.c)), (4, .int .u32 (wb (r.d + r.t kk xx))), (5, .int .u32 (wb r.e)), (6, .int .u32 (wb r.f)), (7, .int .u32 (wb r.g))]).run Try.prog wx = .ok (.agg (encs .u32 (r.round kk xx).l)) wx) := fun wx => build8 (r.round kk xx) wx
                go_wp2_with (first | (refine wpList_build rfl 85 _ rfl (.agg (encs .u32 (r.round kk xx).l)) _ hbu.out (by simp [Act.eval]) ?_) | (refine wpList_store_row rfl 85 _ _ rfl _ _ rfl rfl 85 _ hB9 (by rw [encs_size, HRL.out]; exact size8w) (by rw [encs_size, encs_size, HRL.out]; rfl) (encs_one _ _) ?_) | fail)
                go_roundw
                case rel =>
                  have hB9' : Blk (wy.setRow g9 (encs .u32 (r.round kk xx).l)) g9 (encs .u32 (rounds b1 s (k + 1)).l) 85 := by
                    rw [HRk.out]
                    exact hB9.row _
                  first | exact ⟨k + 1, by omega, by go_num, hB9', hu.setRow _⟩ | ((repeat apply Exists.intro); exact ⟨⟨k + 1, by omega, by go_num, hB9', hu.setRow _⟩, rfl⟩)
                case measure => simp [intOf]; omega
              · obtain rfl : k = 64 := by omega
                generalize rounds b1 s 64 = t at *
                replace hB2 := hB2.upd hu (by omega)
                replace hB3 := hB3.upd hu (by omega)
                replace hR := hR.upd' hu (fun a ha _ => by cases ha; show ga ≠ g9; omega)
                replace hB4' := hB4'.upd hu (by omega)
                replace hbw := Upd.below hbw hu (by omega) hbw.size
                clear hu hW hk hlt HRS HR0
                obtain ⟨wt, rfl⟩ : ∃ wt : World, wt = wr := ⟨_, rfl⟩
                go_wp2_with fail
                go_loopw [193] (fun i wr => ∃ k : Nat, k ≤ 8 ∧ i = .int .i64 k ∧ Blk wr g4 (encs .u32 (addK s.l t.l k)) 85 ∧ Upd g4 wt wr) (fun i _ => 8 - (intOf i).toNat)
                case atStart => exact ⟨0, by omega, rfl, hB4', Upd.refl _ _⟩
                case round =>
                  clear hB4'
                  obtain ⟨k, hk, rfl, hB4, hu⟩ := hrel
                  by_cases hlt : k < 8
                  · have i1 : (k : Int) < 8 := by omega
                    have cs := hB4.word k (by rw [addK_length, S8.l_length]; omega)
                    rw [addK_getD _ _ _ _ (Nat.le_refl _)] at cs
                    have ct := (hB9.upd hu (by omega)).word k (by rw [S8.l_length]; omega)
                    have HN : Hid (addK s.l t.l (k + 1) = (addK s.l t.l k).set k (s.l.getD k 0 + t.l.getD k 0)) := rfl
                    generalize s.l.getD k 0 = x at *
                    generalize t.l.getD k 0 = y at *
                    go_wp2_with fail
                    refine mix_start (fun w' => Below wr.heap.size wr w') (List.range 9) [8] [2, 5] [8] (by kernel_rfl) (by kernel_rfl) (fun d _ _ _ _ h => by cases d <;> exact h) ?_ ?_
                    · exact (Below.refl _ _).drew
                    repeat (refine mix_pure rfl rfl (fun K hK => ?_); go_simp; refine hK _ ?_; clear hK K)
                    refine mix_read (.int .u32 (wb x)) rfl rfl rfl rfl (fun w' hS => ?_) ?_
                    · have hc' := below_cell hS cs
                      go_simp
                    repeat (refine mix_pure rfl rfl (fun K hK => ?_); go_simp; refine hK _ ?_; clear hK K)
                    refine mix_read (.int .u32 (wb y)) rfl rfl rfl rfl (fun w' hS => ?_) ?_
                    · have hc' := below_cell hS ct
                      go_simp
                    repeat (refine mix_pure rfl rfl (fun K hK => ?_); go_simp; refine hK _ ?_; clear hK K)
                    have h1 := hB4.drew.word k (by rw [addK_length, S8.l_length]; omega)
                    have h2 := hB4.drew.frozen k
                    refine mix_ds rfl rfl rfl (fun K hK => ?_)
                    go_simp
                    refine hK _ _ ?_
                    clear hK K
                    clear h1 h2
                    repeat (refine mix_pure rfl rfl (fun K hK => ?_); go_simp; refine hK _ ?_; clear hK K)
                    refine mix_nil ?_
                    go_wp2_with fail
                    go_roundw
                    case rel =>
                      have h3 : Blk (wr.drew.setCell ⟨g4, k, none⟩ (.int .u32 (wb (x + y)))) g4 (encs .u32 (addK s.l t.l (k + 1))) 85 := by
                        rw [HN.out]
                        exact hB4.drew.put k (x + y)
                      first | exact ⟨k + 1, by omega, by go_num, h3, hu.drew.setCell _ _⟩ | ((repeat apply Exists.intro); exact ⟨⟨k + 1, by omega, by go_num, h3, hu.drew.setCell _ _⟩, rfl⟩)
                    case measure => simp [intOf]; omega
                  · obtain rfl : k = 8 := by omega
                    rw [addK_all, ← HC.out] at hB4
                    replace hB2 := hB2.upd hu (by omega)
                    replace hB3 := hB3.upd hu (by omega)
                    replace hR := hR.upd' hu (fun a ha _ => by cases ha; exact Nat.ne_of_lt (hfar _ rfl))
                    replace hbw := Upd.below hbw hu (by omega) hbw.size
                    clear hu
                    have hs2 := fun wx => run_slice_from (P := Try.prog) bytesT (some ⟨ga, oa, none⟩) len c1 64 .i64 (by omega) (by omega) wx
                    rw [show (64 : Int).toNat = 64 from rfl] at hs2
                    have hR3 := rd_cut hR 64 (len - 64) c1 (by rw [HBL.out]; exact hc1)
                    rw [List.take_of_length_le (by rw [List.length_drop, HBL.out]; exact Nat.le_refl _)] at hR3
                    have hfar3 : ∀ a, cutA (some ⟨ga, oa, none⟩) 64 c1 1 = some a → a.block < g4 := fun a ha => by
                      obtain ⟨a', h1, h2⟩ := cutA_block ha
                      rw [h2]
                      exact hfar a' h1
                    have hrun3 : runs ((b1.drop 64).length / 64) (comp s b1) (b1.drop 64) = F := by
                      have h := HRUN.out
                      rw [show len / 64 = (len - 64) / 64 + 1 by omega] at h
                      rw [List.length_drop, HBL.out]
                      exact h
                    have hl3 : (b1.drop 64).length = len - 64 := by rw [List.length_drop, HBL.out]
                    clear hR
                    go_wp2_with fail
                    go_roundw
                    case rel =>
                      rw [← hl3]
                      first | exact ⟨comp s b1, b1.drop 64, cutA (some ⟨ga, oa, none⟩) 64 c1 1, c1 - 64, rfl, by omega, by omega, by omega, hR3, hfar3, hB2, hB3, hB4, hrun3, hbw⟩ | ((repeat apply Exists.intro); exact ⟨⟨comp s b1, b1.drop 64, cutA (some ⟨ga, oa, none⟩) 64 c1 1, c1 - 64, rfl, by omega, by omega, by omega, hR3, hfar3, hB2, hB3, hB4, hrun3, hbw⟩, rfl⟩)
                    case measure => simp [sliceLen]; omega
    · have hs : F = s := by
        have h := HRUN.out
        rw [show b1.length / 64 = 0 by omega] at h
        exact h.symm
      subst hs
      have i1 : ¬ (0 : Int) < (b1.length : Int) := by omega
      have hFL := Lib.hid (S8.l_length F)
      have HO0 := Lib.hid (outA_all F.l rfl)
      have HO1 := Lib.hid (fun i n hi hn => outN_set F.l rfl i n hi hn)
      have HO2 := Lib.hid (fun i hi => outN_four F.l rfl i hi)
      have HO3 := Lib.hid (fun i => outN_zero F.l i)
      have HO4 := Lib.hid (fun i n hi hn => outN_length F.l rfl i n hi hn)
      have HFIN : Hid (outA F.l 8 = sha b) := by show _ = _; rw [HO0.out, HS2.out]
      have HSL := Lib.hid (sha_length b)
      clear hR hfar hB3 HRUN HO0 HS2
      generalize F.l = L at *
      have hO : Blk (wr.alloc (.cells (encs .u8 (outA L 0)) 41)) wr.heap.size (encs .u8 (outA L 0)) 41 := Blk.new _ _ _
      have hB2n := hB2.alloc (.cells (encs .u8 (outA L 0)) 41)
      have hB4n := hB4.alloc (.cells (encs .u8 (outA L 0)) 41)
      have hbn := hb.alloc hb.size (.cells (encs .u8 (outA L 0)) 41)
      have hg2 := hB2.lt
      have hgO := hb.size
      clear hB2 hB4 hb
      obtain ⟨wo, rfl⟩ : ∃ wo : World, wo = wr := ⟨_, rfl⟩
      go_wp2_with (first | (refine wpList_load_row rfl 85 _ rfl g4 rfl 85 _ (0, 0) _ hB4n Try.underlying85 rfl (by rw [encs_size, hFL.out]; exact size8w) ?_) | fail)
      go_loopw [206] (fun v wr => ∃ i : Nat, i ≤ 8 ∧ v = .int .i64 i ∧ Blk wr w.heap.size (encs .u8 z32s) 41 ∧ Blk wr wo.heap.size (encs .u8 (outA L i)) 41 ∧ Below w.heap.size w wr) (fun i _ => 8 - (intOf i).toNat)
      case atStart => exact ⟨0, by omega, rfl, hB2n, hO, hbn⟩
      case round =>
        clear hB2n hB4n hbn hO
        obtain ⟨i, hi, rfl, hB2, hO, hb⟩ := hrel
        by_cases hlt : i < 8
        · have i2 : (i : Int) < 8 := by omega
          have hix := fun wx => run_index_encs (P := Try.prog) 85 72 .i64 .u32 Try.underlying85 Try.underlying72 sizeW L .u32 (i : Int) (by omega) (by rw [hFL.out]; omega) hFL.out wx
          rw [Int.toNat_natCast] at hix
          obtain ⟨wi, rfl⟩ : ∃ wi : World, wi = wr := ⟨_, rfl⟩
          go_wp2_with fail
          go_loopw [210] (fun v wr => ∃ n : Nat, n ≤ 4 ∧ v = .int .i64 n ∧ Blk wr w.heap.size (encs .u8 z32s) 41 ∧ Blk wr wo.heap.size (encs .u8 (outN L i n)) 41 ∧ Below w.heap.size w wr) (fun i _ => 4 - (intOf i).toNat)
          case atStart => exact ⟨0, by omega, rfl, hB2, by rw [HO3.out]; exact hO, hb⟩
          case round =>
            clear hB2 hO hb hix
            obtain ⟨n, hn, rfl, hB2, hO, hb⟩ := hrel
            by_cases hltn : n < 4
            · have j1 : (n : Int) < 4 := by omega
              have j2 : IntKind.i64.wrap (4 * (i : Int)) = 4 * (i : Int) := IntWalk.i64_in _ (by omega)
              have j3 : IntKind.i64.wrap (4 * (i : Int) + (n : Int)) = ((4 * i + n : Nat) : Int) := by rw [IntWalk.i64_in _ (by omega)]; omega
              have j4 : IntKind.i64.wrap (8 * (n : Int)) = 8 * (n : Int) := IntWalk.i64_in _ (by omega)
              have j5 : IntKind.i64.wrap (24 - 8 * (n : Int)) = ((24 - 8 * n : Nat) : Int) := by rw [IntWalk.i64_in _ (by omega)]; omega
              have j6 : ((4 * i + n : Nat) : Int) < 32 := by omega
              have j7 : 4 * (i : Int) + (n : Int) < 32 := by omega
              have j8 : (0 : Int) ≤ 4 * (i : Int) + (n : Int) := by omega
              have j9 : (4 * (i : Int) + (n : Int)).toNat = 4 * i + n := by omega
              have ja : (0 : Int) ≤ 24 - 8 * (n : Int) := by omega
              have jb : (24 - 8 * (n : Int)).toNat = 24 - 8 * n := by omega
              have hO' := hO.put (4 * i + n) ((L.getD i 0 >>> (24 - 8 * n)).setWidth 8)
              rw [HO1.out i n hlt hltn] at hO'
              have c1' := hO.word (4 * i + n) (by rw [HO4.out i n hlt (by omega)]; omega)
              have f1 := hO.frozen (4 * i + n)
              simp only [List.getD_eq_getElem?_getD] at hO'
              go_wp2_with fail
              go_roundw
              case rel => exact ⟨n + 1, by omega, by go_num, hB2.farAt (by omega) _ _, hO', below_setCell hb (by omega) _ _⟩
              case measure => simp [intOf]; omega
            · obtain rfl : n = 4 := by omega
              rw [HO2.out i hlt] at hO
              go_wp2_with fail
              go_roundw
              case rel =>
                first | exact ⟨i + 1, by omega, by go_num, hB2, hO, hb⟩ | ((repeat apply Exists.intro); exact ⟨⟨i + 1, by omega, by go_num, hB2, hO, hb⟩, rfl⟩)
              case measure => simp [intOf]; omega
        · obtain rfl : i = 8 := by omega
          rw [HFIN.out] at hO
          go_wp2_with (first | (refine wpList_load_row rfl 41 _ rfl _ rfl 41 _ (0, 0) _ hO Try.underlying41 rfl (by rw [encs_size, HSL.out]; exact sizeKey0) ?_) | (refine wpList_store_row rfl 41 _ _ rfl _ _ rfl rfl 41 _ hB2 (by rw [encs_size, HSL.out]; exact sizeKey0) (by rw [encs_size, encs_size, HSL.out]; rfl) (encs_one _ _) ?_) | fail)
          refine bodyPost_ret (v := .agg (encs .u8 (sha b))) (results_cell_row rfl _ _ _ _ _ _ _ rfl (hB2.row _) Try.underlying41 rfl (by rw [encs_size, HSL.out]; exact sizeKey0)) rfl ⟨rfl, below_setRow hb (Nat.le_refl _) _⟩
end Go.Proofs.Ytfamcgmgcchppaa
