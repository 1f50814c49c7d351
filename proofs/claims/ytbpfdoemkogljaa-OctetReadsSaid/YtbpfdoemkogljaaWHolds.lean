/- The walk of OctetHolds. -/
import Derived.Test.YtbpfdoemkogljaaWTwice
namespace Go.Proofs.Ytbpfdoemkogljaa
open Go.RowKit
theorem all_snoc (l : List (BitVec 8)) (k : Nat) (h : k < l.length) : (l.take (k + 1)).all (· == 0) = ((l.take k).all (· == 0) && l.getD k 0 == 0) := by
  rw [take_snoc l 0 k h, List.all_append]
  simp
theorem wb_eqb (x y : BitVec 64) : (wb x == wb y) = (x == y) := by
  rw [Bool.eq_iff_iff]
  simp only [beq_iff_eq]
  exact wb_inj
attribute [local go_sem] bits_xor_u8 min_imin wb_eq0
set_option maxHeartbeats 4000000 in
theorem holds_walk (a b : List (BitVec 8)) (A B : Option Addr) (cap cap' : Nat) (w : World) (hR : Rd w .u8 A a) (hM : Rd w .u8 B b) (hc1 : a.length ≤ cap) (hc2 : b.length ≤ cap') (hl1 : a.length ≤ 140737488351232) (hl2 : b.length ≤ 140737488351232) :
    Calls Try.prog 6 #[.slice A a.length cap, .slice B b.length cap'] w fun e w' => e = .returned (.bool true) ∧ Below w.heap.size w w' := by
  obtain ⟨x, hx⟩ : ∃ x, x = xorB a b := ⟨_, rfl⟩
  obtain ⟨n, hn⟩ : ∃ n, n = min a.length b.length := ⟨_, rfl⟩
  have HX := Lib.hid hx
  have HXL : Hid (x.length = n) := by rw [hx, hn]; exact xorB_length a b
  have HXG : Hid (∀ k, k < n → x.getD k 0 = a.getD k 0 ^^^ b.getD k 0) := fun k hk => by rw [hx]; exact xorB_get a b k (by omega) (by omega)
  have hmin : imin (a.length : Int) (b.length : Int) = (n : Int) := by rw [hn]; exact imin_nat _ _
  have hmk := fun wx => run_make_words (P := Try.prog) 22 5 .u8 8 1 Try.underlying22 bytesT.hi n (by omega) (by omega) wx
  have hn0 : (n : Int) ≤ 140737488355328 := by omega
  have hnl' : (n : Int) ≤ (a.length : Int) := by omega
  have hnm' : (n : Int) ≤ (b.length : Int) := by omega
  have HNL : Hid (n ≤ a.length) := by rw [hn]; exact Nat.min_le_left _ _
  have HNM : Hid (n ≤ b.length) := by rw [hn]; exact Nat.min_le_right _ _
  have hA := Lib.hid (arg_mk hR hc1)
  have hB := Lib.hid (arg_mk hM hc2)
  have H1 : Hid (a.length ≤ 140737488351232) := hl1
  have H2 : Hid (b.length ≤ 140737488351232) := hl2
  obtain ⟨la, hla⟩ : ∃ la, la = a.length := ⟨_, rfl⟩
  obtain ⟨lb, hlb⟩ : ∃ lb, lb = b.length := ⟨_, rfl⟩
  rw [← hla] at hmin hnl' hl1 ⊢
  rw [← hlb] at hmin hnm' ⊢
  have HLA := Lib.hid hla
  rw [← hla] at hA
  rw [← hlb] at hB
  clear hx hn hla hlb hc1 hc2 hl2
  go_enter Try.func6, Try.ntmps6
  go_wp2_with fail
  refine (wakes_any w).mono ?_
  rintro e w1 ⟨rfl, hb1⟩
  have hw1 := hb1.size
  go_wp2_with fail
  clear hmin hmk
  go_loopw [20] (fun i wr => ∃ k : Nat, k ≤ n ∧ i = .int .i64 k ∧ Blk wr w1.heap.size (encs .u8 (fill x k)) 5 ∧ Below w.heap.size w wr) (fun i _ => n - (intOf i).toNat)
  case atStart => exact ⟨0, Nat.zero_le _, rfl, by rw [fill_zero, HXL.out]; exact Blk.new _ _ _, hb1.alloc hw1 _⟩
  case round =>
    obtain ⟨k, hk, rfl, hW, hb⟩ := hrel
    by_cases hlt : k < n
    · have i1 : (k : Int) < (n : Int) := by omega
      have i2 : (k : Int) < (la : Int) := by omega
      have i3 : (k : Int) < (lb : Int) := by omega
      obtain ⟨g, off, rfl, hc1⟩ := hR k (Nat.lt_of_lt_of_le hlt HNL.out)
      obtain ⟨g', off', rfl, hc2⟩ := hM k (Nat.lt_of_lt_of_le hlt HNM.out)
      replace hc1 := below_cell hb hc1
      replace hc2 := below_cell hb hc2
      have HS := Lib.hid (fill_set x k (by rw [HXL.out]; exact hlt))
      rw [HXG.out k hlt] at HS
      generalize a.getD k 0 = lk at *
      generalize b.getD k 0 = mk at *
      have hq := hW.put k (lk ^^^ mk)
      rw [HS.out] at hq
      have hq2 := below_setCell hb hw1 k (.int .u8 (wb (lk ^^^ mk)))
      have HQ := Lib.hid hq
      have HQ2 := Lib.hid hq2
      have ht := hW.word k (by rw [fill_length _ _ (by rw [HXL.out]; omega), HXL.out]; exact hlt)
      have hf := hW.frozen k
      clear hq hq2
      go_wp2_with fail
      refine mix_start (fun w' => Below wr.heap.size wr w') (List.range 13) [12] [5, 9] [12] (by kernel_rfl) (by kernel_rfl) (fun d _ _ _ _ h => by cases d <;> exact h) (Below.refl _ _).drew ?_
      repeat (refine mix_pure rfl rfl (fun K hK => ?_); go_simp; refine hK _ ?_; clear hK K)
      refine mix_read (.int .u8 (wb lk)) rfl rfl rfl rfl (fun w' hS => ?_) ?_
      · have hc' := below_cell hS hc1
        go_simp
      repeat (refine mix_pure rfl rfl (fun K hK => ?_); go_simp; refine hK _ ?_; clear hK K)
      refine mix_read (.int .u8 (wb mk)) rfl rfl rfl rfl (fun w' hS => ?_) ?_
      · have hc' := below_cell hS hc2
        go_simp
      repeat (refine mix_pure rfl rfl (fun K hK => ?_); go_simp; refine hK _ ?_; clear hK K)
      refine mix_ds rfl rfl rfl (fun K hK => ?_)
      go_simp
      refine hK _ _ ?_
      clear hK K
      refine mix_nil ?_
      clear hc1 hc2 ht hf
      go_wp2_with fail
      go_roundw
      case rel =>
        first | exact ⟨k + 1, by omega, by go_num, HQ.out, HQ2.out.drew⟩ | ((repeat apply Exists.intro); exact ⟨⟨k + 1, by omega, by go_num, HQ.out, HQ2.out.drew⟩, rfl⟩)
      case measure => simp [intOf]; omega
    · obtain rfl : k = n := by omega
      rw [← HXL.out, fill_all] at hW
      have hO : OwnB wr w.heap.size (.slice (some ⟨w1.heap.size, 0, none⟩) k k) x := by
        have := blk_owns hW hw1 HXL.out (by unfold maxLen; omega)
        unfold OwnB
        rw [HXL.out]
        exact this
      have hO' := Lib.hid hO
      have hb' := Lib.hid hb
      clear hO hW hb
      go_wp2_with fail
      go_loop [7, 38] (fun z i => ∃ j : Nat, j ≤ la ∧ i = .int .i64 j ∧ ∃ b : Bool, z = .bool b ∧ Hid (b = (a.take j).all (· == 0))) (fun _ i => la - (intOf i).toNat)
      case atStart => exact ⟨0, Nat.zero_le _, rfl, true, rfl, by simp [Hid]⟩
      case round =>
        obtain ⟨j, hj, rfl, z, rfl, hz⟩ := hrel
        by_cases hlt2 : j < la
        · have i1 : (j : Int) < (la : Int) := by omega
          obtain ⟨g, off, rfl, hc1⟩ := (hR.below hb'.out) j (by rw [← HLA.out]; exact hlt2)
          have HS := Lib.hid (all_snoc a j (by rw [← HLA.out]; exact hlt2))
          generalize a.getD j 0 = lk at *
          cases z
          · go_wp2_with fail
            go_round
            case rel => exact ⟨j + 1, by omega, by go_num, false, rfl, by show _ = _; rw [HS.out, ← hz.out]; rfl⟩
            case measure => simp [intOf]; omega
          · go_wp2_with fail
            go_round
            case rel => exact ⟨j + 1, by omega, by go_num, _, rfl, by show _ = _; rw [HS.out, ← hz.out]; rfl⟩
            case measure => simp [intOf]; omega
        · obtain rfl : j = la := by omega
          have hz' : Hid (z = a.all (· == 0)) := by
            have := hz.out
            rwa [List.take_of_length_le (by rw [HLA.out]; omega)] at this
          have hb := hb'.out
          have hO := hO'.out
          clear hO' hb' hz hj
          have h1 : a.length ≤ 140737488355328 := by have := H1.out; omega
          have h2 : b.length ≤ 140737488355328 := by have := H2.out; omega
          have H1' := Lib.hid h1
          have H2' := Lib.hid h2
          clear h1 h2
          go_wp2_with fail
          refine ((equal_v (hA.out.below hb) (hB.out.below hb) H1'.out)).mono ?_
          rintro e w3 ⟨rfl, hb2⟩
          replace hO := hO.below hb2
          replace hb := hb.trans (hb2.mono hb.size)
          clear hb2
          go_wp2_with fail
          refine ((same_v (hA.out.below hb) (hB.out.below hb) H1'.out)).mono ?_
          rintro e w4 ⟨rfl, hb2⟩
          replace hO := hO.below hb2
          replace hb := hb.trans (hb2.mono hb.size)
          clear hb2
          generalize (a == b) = r
          have hC := Lib.hid ((hR.below hb).cells)
          have hbs := hb.size
          go_wp2_with (first | (refine wpList_append_row_g rfl (.tmp 57) (.tmp 58) bytesT rfl w4.heap.size _ 0 [] rfl (World.ownsRow_made w4 #[] 0 (Nat.le_refl _) (Nat.zero_le _) rfl) A j cap (encL .u8 a) rfl (by rw [encL_length, HLA.out, Nat.mul_one]) (hC.out.below ((Below.refl _ _).alloc (Nat.le_refl _) _)) (encL_one _ _) (by omega) (by simp) ?_; intro v w5 hown hgr _; simp only [Nat.zero_add, List.nil_append] at hown) | fail)
          have hb5 : Below w4.heap.size w4 w5 := below_grown ((Below.refl _ _).alloc (Nat.le_refl _) _) (by simp) hgr (fun k hk => by cases hk; exact Nat.le_refl _)
          replace hown : OwnB w5 w4.heap.size v a := by unfold OwnB; rw [← HLA.out]; exact hown
          replace hO := hO.below hb5
          replace hb := hb.trans (hb5.mono hb.size)
          clear hb5 hgr hC
          refine (equal_v (hA.out.below hb) hown.arg H1'.out).mono ?_
          rintro e w6 ⟨rfl, hb2⟩
          rw [beq_self_eq_true]
          replace hO := hO.below hb2
          replace hb := hb.trans (hb2.mono hb.size)
          clear hb2 hown
          go_wp2_with fail
          refine ((zero_v (hA.out.below hb) H1'.out)).mono ?_
          rintro e _ ⟨rfl, rfl⟩
          rw [← hz'.out]
          go_wp2_with fail
          refine ((oxor_v (hA.out.below hb) (hB.out.below hb) H1'.out)).mono ?_
          rintro e w8 ⟨q, rfl, hq, hb2⟩
          replace hq : OwnB w8 _ q (xorB a b) := hq
          replace hO := hO.below hb2
          replace hb := hb.trans (hb2.mono hb.size)
          clear hb2
          rw [← HX.out] at hq
          go_wp2_with fail
          refine ((same_v hq.arg hO.arg (by rw [HXL.out]; omega))).mono ?_
          rintro e w9 ⟨rfl, hb2⟩
          replace hb := hb.trans (hb2.mono hb.size)
          clear hb2
          rw [beq_self_eq_true]
          go_wp2_with fail
          refine ((get64_v (hA.out.below hb))).mono ?_
          rintro e _ ⟨rfl, rfl⟩
          go_wp2_with fail
          refine ((rhigh_v (hA.out.below hb) H1'.out)).mono ?_
          rintro e _ ⟨rfl, rfl⟩
          go_wp2_with fail
          go_ret
          exact ⟨rfl, hb⟩
end Go.Proofs.Ytbpfdoemkogljaa
