/- The walk of ChachaParts. -/
import Derived.Test.YtdpdpeifmignnaaWakes
import Derived.Test.YtdpdpeifmignnaaWTwice
import Derived.Test.YtdpdpeifmignnaaOwn
import Derived.Test.YtdpdpeifmignnaaWXors
import Derived.Test.YtdpdpeifmignnaaRowR
namespace Go.Proofs.Ytdpdpeifmignnaa
open Go.RowKit
theorem chXor_getElem (key nonce b : List (BitVec 8)) (ctr : BitVec 32) (i : Nat) (h : i < b.length) : (chXor key ctr nonce b).getD i 0 = b.getD i 0 ^^^ ksb key ctr nonce i := by
  simp [chXor, xorM, List.getD, h]
theorem getD_ext {n : Nat} {l m : List (BitVec n)} (hl : l.length = m.length) (h : ∀ i, i < l.length → l.getD i 0 = m.getD i 0) : l = m := by
  apply List.ext_getElem hl
  intro i h1 h2
  have := h i h1
  simpa [List.getD, h1, h2] using this
theorem chXor_parts (key nonce c : List (BitVec 8)) (ctr : BitVec 32) (q : Nat) (h : 64 * q ≤ c.length) : chXor key ctr nonce (c.take (64 * q)) ++ chXor key (ctr + BitVec.ofNat 32 q) nonce (c.drop (64 * q)) = chXor key ctr nonce c := by
  apply getD_ext
  · simp [chXor_length]
    omega
  · intro i hi
    simp only [List.length_append, chXor_length, List.length_take, List.length_drop] at hi
    rw [chXor_getElem key nonce c ctr i (by omega)]
    by_cases hq : i < 64 * q
    · have e1 : (chXor key ctr nonce (c.take (64 * q)) ++ chXor key (ctr + BitVec.ofNat 32 q) nonce (c.drop (64 * q))).getD i 0 = (chXor key ctr nonce (c.take (64 * q))).getD i 0 := by
        rw [List.getD_eq_getElem?_getD, List.getElem?_append_left (by rw [chXor_length, List.length_take]; omega), ← List.getD_eq_getElem?_getD]
      rw [e1, chXor_getElem _ _ _ _ i (by rw [List.length_take]; omega)]
      congr 1
      simp [List.getD, hq]
    · have e1 : (chXor key ctr nonce (c.take (64 * q)) ++ chXor key (ctr + BitVec.ofNat 32 q) nonce (c.drop (64 * q))).getD i 0 = (chXor key (ctr + BitVec.ofNat 32 q) nonce (c.drop (64 * q))).getD (i - 64 * q) 0 := by
        rw [List.getD_eq_getElem?_getD, List.getElem?_append_right (by rw [chXor_length, List.length_take]; omega), ← List.getD_eq_getElem?_getD]
        congr 1
        rw [chXor_length, List.length_take]
        omega
      rw [e1, chXor_getElem _ _ _ _ _ (by rw [List.length_drop]; omega)]
      have e2 : (c.drop (64 * q)).getD (i - 64 * q) 0 = c.getD i 0 := by
        simp only [List.getD_eq_getElem?_getD, List.getElem?_drop]
        rw [show 64 * q + (i - 64 * q) = i by omega]
      have e3 : ksb key (ctr + BitVec.ofNat 32 q) nonce (i - 64 * q) = ksb key ctr nonce i := by
        unfold ksb
        have h1 : i / 64 = q + (i - 64 * q) / 64 := by omega
        have h2 : i % 64 = (i - 64 * q) % 64 := by omega
        rw [h1, h2, BitVec.ofNat_add, BitVec.add_assoc]
      rw [e2, e3]
theorem chXor_zeros (key nonce : List (BitVec 8)) (ctr : BitVec 32) (n i : Nat) (h : i < n) : (chXor key ctr nonce (List.replicate n 0#8)).getD i 0 = ksb key ctr nonce i := by
  rw [chXor_getElem _ _ _ _ i (by simpa using h)]
  simp [List.getD, h]
theorem chXor_first (key nonce : List (BitVec 8)) (ctr : BitVec 32) (n : Nat) : (chXor key ctr nonce (List.replicate n 0#8)).take (min n 64) = (chBlock key ctr nonce).take (min n 64) := by
  apply getD_ext
  · simp [chXor_length, chBlock_length]
  · intro i hi
    simp only [List.length_take, chXor_length, List.length_replicate] at hi
    have h1 : i < min n 64 := by omega
    have e1 : ∀ l : List (BitVec 8), (l.take (min n 64)).getD i 0 = l.getD i 0 := fun l => by simp [List.getD, h1]
    rw [e1, e1, chXor_zeros _ _ _ _ i (by omega)]
    have := ksb_at key ctr nonce 0 i (by omega)
    simpa using this
theorem blk_own5 {w : World} {g m base : Nat} {l : List (BitVec 8)} (h : Blk w g (encs .u8 l) 5) (hb : base ≤ g) (hl : l.length = m) (hm : m ≤ maxLen) : w.ownsRow base 5 1 (.slice (some ⟨g, 0, none⟩) m m) m (R.encL .u8 l) :=
  ⟨by rw [R.encL_length, hl, Nat.mul_one], .inr ⟨g, m, _, rfl, hb, h, Nat.le_refl _, hm, by rw [encs_size, hl, Nat.mul_one], by rw [R.encs_toList, List.take_of_length_le (by rw [R.encL_length, hl]; omega)]⟩⟩
theorem xor_neq (x : BitVec 8) : (wb x != wb x) = false := by simp
attribute [local go_sem] min_imin max_imax add_u32 bits_xor_u8
set_option maxHeartbeats 8000000 in
theorem parts_walk (key nonce b : List (BitVec 8)) (ctr : BitVec 32) (A : Option Addr) (cap : Nat) (blk : Int) (hk : key.length = 32) (hn : nonce.length = 12) (hcap : b.length ≤ cap) (w : World) (hR : Rd w .u8 A b) :
    Calls Try.prog 8 #[.agg (usedC key ctr nonce), .slice A b.length cap, .int .i64 blk] w fun e w' => e = .returned (.bool true) ∧ Below w.heap.size w w' := by
  have HK := Lib.hid hk
  have HN := Lib.hid hn
  clear hk hn
  obtain ⟨L, hL⟩ : ∃ L, L = min b.length 4000 := ⟨_, rfl⟩
  obtain ⟨c, hc⟩ : ∃ c, c = b.take L := ⟨_, rfl⟩
  have hcl : c.length = L := by rw [hc, List.length_take, hL]; omega
  have hRc : Rd w .u8 A c := by rw [hc]; exact rd_take hR L
  have hmin : imin (b.length : Int) 4000 = (L : Int) := by rw [hL]; exact imin_nat b.length 4000
  have hLl : L ≤ 4000 := by omega
  have hLb : (L : Int) ≤ (cap : Int) := by omega
  clear hL hc
  generalize b.length = len at *
  have HL := Lib.hid hcl
  clear hcl
  obtain ⟨m, hm⟩ : ∃ m : Nat, imax blk 0 = (m : Int) := ⟨(imax blk 0).toNat, by unfold imax; split <;> omega⟩
  obtain ⟨q, hq⟩ : ∃ q, q = min (m % 70) (L / 64) := ⟨_, rfl⟩
  obtain ⟨N, hN⟩ : ∃ N, N = 64 * q := ⟨_, rfl⟩
  have hNL : N ≤ L := by omega
  have hmn : imin ((m : Int) % 70 * 64) ((L : Int) / 64 * 64) = (N : Int) := by unfold imin; split <;> omega
  have hNi : (N : Int) ≤ (L : Int) := by omega
  have hdiv : (N : Int) / 64 = wb (BitVec.ofNat 32 q) := by
    unfold wb
    rw [BitVec.toNat_ofNat, Nat.mod_eq_of_lt (by omega)]
    omega
  have hcv : IntKind.u32.wrap (wb (BitVec.ofNat 32 q)) = wb (BitVec.ofNat 32 q) := by rw [conv_u32, BitVec.setWidth_eq]
  have hcw : IntKind.i64.wrap (wb (BitVec.ofNat 32 q)) = wb (BitVec.ofNat 32 q) := by
    have h0 := wb_nonneg (BitVec.ofNat 32 q)
    have h1 := wb_lt32 (BitVec.ofNat 32 q)
    exact IntWalk.i64_in _ (by omega)
  have HNq := Lib.hid hN
  clear hq hN
  have hmk := fun wx => run_make_words (P := Try.prog) 38 5 .u8 8 1 Try.underlying38 mem5 L (by omega) (by omega) wx
  have T38 : R.ElemT Try.prog 38 5 (.int .u8 0) 1 1 := ⟨Try.underlying38, mem5, rfl, by decide, by decide⟩
  obtain ⟨A2, hA2⟩ : ∃ A2, A2 = R.cutA A N cap 1 := ⟨_, rfl⟩
  have hRt : Rd w .u8 A2 (c.drop N) := by
    have := R.rd_cut hRc N (L - N) cap (by rw [HL.out]; omega)
    rw [List.take_of_length_le (by rw [List.length_drop, HL.out]; omega)] at this
    rw [hA2]
    exact this
  have hs1 := fun wx => R.run_slice_to T38 A L cap (N : Int) .i64 (by omega) (by omega) wx
  have hs2 := fun wx => R.run_slice_from T38 A L cap (N : Int) .i64 (by omega) (by omega) wx
  simp only [Int.toNat_natCast, R.cutA_zero, ← hA2] at hs1 hs2
  clear hA2
  have HT1 : Hid ((c.take N).length = N) := by show _ = _; rw [List.length_take, HL.out]; omega
  have HT2 : Hid ((c.drop N).length = L - N) := by show _ = _; rw [List.length_drop, HL.out]
  go_enter Try.func8, Try.ntmps8
  go_wp2_with fail
  refine (wakes_any _).mono ?_
  rintro e w1 ⟨rfl, hb1⟩
  have hB : Blk w1 w.heap.size (usedC key ctr nonce) 28 := (Blk.new w _ _).below hb1 (by simp)
  have hb : Below w.heap.size w w1 := ((Below.refl _ _).alloc (Nat.le_refl _) _).trans (hb1.mono (by simp))
  have hw1 : w.heap.size + 1 ≤ w1.heap.size := by have := hb1.size; simpa using this
  clear hb1
  have hct : w1.cell? ⟨w.heap.size, 32, none⟩ = some (.int .u32 (wb ctr)) := by rw [hB.cell, usedC_ctr key ctr nonce HK.out]
  go_wp2_with (first | (refine wpList_load_part rfl 23 _ rfl w.heap.size 0 rfl 28 _ (0, 0) _ (encL .u8 key) hB (usedC_key key ctr nonce) Try.underlying23 rfl (by rw [encL_length, HK.out]; exact size23) ?_) | (refine wpList_load_part rfl 26 _ rfl w.heap.size 33 rfl 28 _ (0, 0) _ (encL .u8 nonce) hB (usedC_nonce key ctr nonce HK.out) Try.underlying26 rfl (by rw [encL_length, HN.out]; exact size26) ?_) | fail)
  clear hct
  have hx := xor_any key nonce c ctr A cap HK.out HN.out (by rw [HL.out]; omega) w1 (hRc.below hb)
  rw [HL.out] at hx
  refine hx.mono ?_
  clear hx
  rintro e w2 ⟨g2, rfl, hB2, hg2, hb2⟩
  have HXL : Hid ((chXor key ctr nonce c).length = L) := (chXor_length key ctr nonce c).trans HL.out
  simp only [HXL.out]
  replace hB := hB.below hb2 hB.lt
  replace hb := hb.trans (hb2.mono hb.size)
  clear hb2
  have hct : w2.cell? ⟨w.heap.size, 32, none⟩ = some (.int .u32 (wb ctr)) := by rw [hB.cell, usedC_ctr key ctr nonce HK.out]
  go_wp2_with fail
  refine mix_start (fun w' => Below w2.heap.size w2 w') (List.range 11) [9] [1, 3, 5] [] (by kernel_rfl) (by kernel_rfl) (fun d _ _ _ _ h => by cases d <;> exact h) (Below.refl _ _).drew ?_
  repeat (refine mix_pure rfl rfl (fun K hK => ?_); go_simp; refine hK _ ?_; clear hK K)
  refine mix_load_part rfl rfl rfl rfl 23 _ rfl w.heap.size 0 rfl 28 _ (0, 0) _ (encL .u8 key) (fun w' hS => hB.below hS hB.lt) (usedC_key key ctr nonce) Try.underlying23 rfl (by rw [encL_length, HK.out]; exact size23) ?_
  repeat (refine mix_pure rfl rfl (fun K hK => ?_); go_simp; refine hK _ ?_; clear hK K)
  refine mix_read (.int .u32 (wb ctr)) rfl rfl rfl rfl (fun w' hS => ?_) ?_
  · have hc' := below_cell hS hct
    go_simp
  repeat (refine mix_pure rfl rfl (fun K hK => ?_); go_simp; refine hK _ ?_; clear hK K)
  refine mix_load_part rfl rfl rfl rfl 26 _ rfl w.heap.size 33 rfl 28 _ (0, 0) _ (encL .u8 nonce) (fun w' hS => hB.below hS hB.lt) (usedC_nonce key ctr nonce HK.out) Try.underlying26 rfl (by rw [encL_length, HN.out]; exact size26) ?_
  repeat (refine mix_pure rfl rfl (fun K hK => ?_); go_simp; refine hK _ ?_; clear hK K)
  simp only [encL_toArray]
  refine mix_eff rfl rfl (fun K hK => ?_)
  go_simp
  have hx := xor_any key nonce (c.take N) ctr A cap HK.out HN.out (by rw [HT1.out]; omega) w2.drew ((rd_take hRc N).below hb.drew)
  rw [HT1.out] at hx
  refine hx.mono ?_
  clear hx
  rintro e w3 ⟨g3, rfl, hB3, hg3, hb3⟩
  have HX1 : Hid ((chXor key ctr nonce (c.take N)).length = N) := (chXor_length key ctr nonce _).trans HT1.out
  simp only [HX1.out]
  refine hK _ _ (fun _ h => h.trans (hb3.mono h.size)) ?_
  clear hK K
  repeat (refine mix_pure rfl rfl (fun K hK => ?_); go_simp; refine hK _ ?_; clear hK K)
  refine mix_nil ?_
  have hg23 : g2 < w2.heap.size := hB2.lt
  replace hB := Blk.below (w := w2.drew) hB hb3 hB.lt
  replace hB2 := Blk.below (w := w2.drew) hB2 hb3 hB2.lt
  replace hg3 : w2.heap.size ≤ g3 := hg3
  replace hb := hb.drew.trans (hb3.mono hb.drew.size)
  clear hb3 hct
  have hct : w3.cell? ⟨w.heap.size, 32, none⟩ = some (.int .u32 (wb ctr)) := by rw [hB.cell, usedC_ctr key ctr nonce HK.out]
  go_wp2_with fail
  refine mix_start (fun w' => Below w3.heap.size w3 w') (List.range 15) [13] [1, 3, 9] [] (by kernel_rfl) (by kernel_rfl) (fun d _ _ _ _ h => by cases d <;> exact h) (Below.refl _ _).drew ?_
  repeat (refine mix_pure rfl rfl (fun K hK => ?_); go_simp; refine hK _ ?_; clear hK K)
  refine mix_load_part rfl rfl rfl rfl 23 _ rfl w.heap.size 0 rfl 28 _ (0, 0) _ (encL .u8 key) (fun w' hS => hB.below hS hB.lt) (usedC_key key ctr nonce) Try.underlying23 rfl (by rw [encL_length, HK.out]; exact size23) ?_
  repeat (refine mix_pure rfl rfl (fun K hK => ?_); go_simp; refine hK _ ?_; clear hK K)
  refine mix_read (.int .u32 (wb ctr)) rfl rfl rfl rfl (fun w' hS => ?_) ?_
  · have hc' := below_cell hS hct
    go_simp
  repeat (refine mix_pure rfl rfl (fun K hK => ?_); go_simp; refine hK _ ?_; clear hK K)
  refine mix_load_part rfl rfl rfl rfl 26 _ rfl w.heap.size 33 rfl 28 _ (0, 0) _ (encL .u8 nonce) (fun w' hS => hB.below hS hB.lt) (usedC_nonce key ctr nonce HK.out) Try.underlying26 rfl (by rw [encL_length, HN.out]; exact size26) ?_
  repeat (refine mix_pure rfl rfl (fun K hK => ?_); go_simp; refine hK _ ?_; clear hK K)
  simp only [encL_toArray]
  refine mix_eff rfl rfl (fun K hK => ?_)
  go_simp
  have hx := xor_any key nonce (c.drop N) (ctr + BitVec.ofNat 32 q) A2 (cap - N) HK.out HN.out (by rw [HT2.out]; omega) w3.drew (hRt.below hb.drew)
  rw [HT2.out] at hx
  refine hx.mono ?_
  clear hx
  rintro e w4 ⟨g4, rfl, hB4, hg4, hb4⟩
  have HX2 : Hid ((chXor key (ctr + BitVec.ofNat 32 q) nonce (c.drop N)).length = L - N) := (chXor_length _ _ nonce _).trans HT2.out
  simp only [HX2.out]
  refine hK _ _ (fun _ h => h.trans (hb4.mono h.size)) ?_
  clear hK K
  repeat (refine mix_pure rfl rfl (fun K hK => ?_); go_simp; refine hK _ ?_; clear hK K)
  refine mix_nil ?_
  have hg34 : g3 < w3.heap.size := hB3.lt
  replace hB := Blk.below (w := w3.drew) hB hb4 hB.lt
  replace hB2 := Blk.below (w := w3.drew) hB2 hb4 hB2.lt
  replace hB3 := Blk.below (w := w3.drew) hB3 hb4 hB3.lt
  replace hg4 : w3.heap.size ≤ g4 := hg4
  have hw3 : w.heap.size ≤ w3.heap.size := hb.size
  replace hb := hb.drew.trans (hb4.mono hb.drew.size)
  clear hb4 hct
  have hP : Hid (chXor key ctr nonce (c.take N) ++ chXor key (ctr + BitVec.ofNat 32 q) nonce (c.drop N) = chXor key ctr nonce c) := by
    show _ = _
    rw [HNq.out]
    exact chXor_parts key nonce c ctr q (by rw [HL.out, ← HNq.out]; exact hNL)
  obtain ⟨X, hX⟩ : ∃ X, X = chXor key ctr nonce c := ⟨_, rfl⟩
  obtain ⟨X1, hX1⟩ : ∃ X1, X1 = chXor key ctr nonce (c.take N) := ⟨_, rfl⟩
  obtain ⟨X2, hX2⟩ : ∃ X2, X2 = chXor key (ctr + BitVec.ofNat 32 q) nonce (c.drop N) := ⟨_, rfl⟩
  rw [← hX] at hB2 HXL hP
  rw [← hX1] at hB3 HX1 hP
  rw [← hX2] at hB4 HX2 hP
  have HXe := Lib.hid hX
  clear hX hX1 hX2 hs1 hs2 hm hmn hdiv hcv hcw hRt
  have hO1 := blk_own5 hB3 hg3 HX1.out (by unfold maxLen; omega)
  have hbs := hb.size
  have hb4s : w2.heap.size ≤ w4.heap.size := by have := hB4.lt; omega
  have hLN : N + (L - N) = L := by omega
  go_wp2_with (first | (refine R.wpList_append_row rfl (.tmp 63) (.tmp 64) T38 rfl w2.heap.size _ N (R.encL .u8 X1) rfl hO1 (some ⟨g4, 0, none⟩) (L - N) (L - N) (R.encL .u8 X2) rfl (by rw [R.encL_length, HX2.out, Nat.mul_one]) (R.Rd.cells hB4.rd) (R.encL_one _ _) (by omega) hb4s ?_; intro v w5 hown hgr _) | fail)
  have e5 : N + (L - N) = X.length := by rw [HXL.out]; omega
  rw [← R.encL_append, hP.out, e5] at hown
  obtain ⟨A5, cap5, rfl, hc5, hr5⟩ := R.ownsRow_rd hown
  rw [HXL.out]
  clear e5 hLN
  have hB5 : Blk w5 w.heap.size (usedC key ctr nonce) 28 := R.Blk.grown hB hgr (fun h => by have h2 : g3 = w.heap.size := Option.some.inj h; omega)
  have hB25 : Blk w5 g2 (encs .u8 X) 5 := R.Blk.grown hB2 hgr (fun h => by have h2 : g3 = g2 := Option.some.inj h; omega)
  have hb5 : Below w.heap.size w w5 := R.below_grown hb (by omega) hgr (fun k hk => by have h2 : g3 = k := Option.some.inj hk; omega)
  clear hB hB2 hb hB3 hB4 hO1 hown hgr
  have hx := bytesEqual_any X X (some ⟨g2, 0, none⟩) A5 L cap5 w5 hB25.rd hr5
  rw [HXL.out] at hx
  refine hx.mono ?_
  clear hx
  rintro e _ ⟨rfl, rfl⟩
  rw [beq_self_eq_true]
  have hB := hB5
  have hct : w5.cell? ⟨w.heap.size, 32, none⟩ = some (.int .u32 (wb ctr)) := by rw [hB.cell, usedC_ctr key ctr nonce HK.out]
  go_wp2_with fail
  refine mix_start (fun w' => Below w5.heap.size w5 w') (List.range 11) [8, 9] [1, 3, 5] [] (by kernel_rfl) (by kernel_rfl) (fun d _ _ _ _ h => by cases d <;> exact h) (Below.refl _ _).drew ?_
  repeat (refine mix_pure rfl rfl (fun K hK => ?_); go_simp; refine hK _ ?_; clear hK K)
  refine mix_load_part rfl rfl rfl rfl 23 _ rfl w.heap.size 0 rfl 28 _ (0, 0) _ (encL .u8 key) (fun w' hS => hB.below hS hB.lt) (usedC_key key ctr nonce) Try.underlying23 rfl (by rw [encL_length, HK.out]; exact size23) ?_
  repeat (refine mix_pure rfl rfl (fun K hK => ?_); go_simp; refine hK _ ?_; clear hK K)
  refine mix_read (.int .u32 (wb ctr)) rfl rfl rfl rfl (fun w' hS => ?_) ?_
  · have hc' := below_cell hS hct
    go_simp
  repeat (refine mix_pure rfl rfl (fun K hK => ?_); go_simp; refine hK _ ?_; clear hK K)
  refine mix_load_part rfl rfl rfl rfl 26 _ rfl w.heap.size 33 rfl 28 _ (0, 0) _ (encL .u8 nonce) (fun w' hS => hB.below hS hB.lt) (usedC_nonce key ctr nonce HK.out) Try.underlying26 rfl (by rw [encL_length, HN.out]; exact size26) ?_
  repeat (refine mix_pure rfl rfl (fun K hK => ?_); go_simp; refine hK _ ?_; clear hK K)
  simp only [encL_toArray]
  refine mix_eff rfl rfl (fun K hK => ?_)
  go_simp
  refine hK _ _ (fun _ h => h.alloc h.size _) ?_
  clear hK K
  repeat (refine mix_pure rfl rfl (fun K hK => ?_); go_simp; refine hK _ ?_; clear hK K)
  refine mix_eff rfl rfl (fun K hK => ?_)
  go_simp
  have hzl : (List.replicate L (0 : BitVec 8)).length = L := by simp
  have hx := xor_any key nonce (List.replicate L (0 : BitVec 8)) ctr (some ⟨w5.heap.size, 0, none⟩) L HK.out HN.out (by rw [hzl]; omega) _ (Blk.rd (Blk.new_at w5.drew (encs .u8 (List.replicate L (0 : BitVec 8))) 5 w5.heap.size rfl))
  rw [hzl] at hx
  refine hx.mono ?_
  clear hx
  rintro e w6 ⟨g6, rfl, hB6, hg6, hb6⟩
  have HS : Hid ((chXor key ctr nonce (List.replicate L (0 : BitVec 8))).length = L) := (chXor_length key ctr nonce _).trans hzl
  simp only [HS.out]
  have hb56 : Below w5.heap.size w5 w6 := ((Below.refl _ _).drew.alloc (Nat.le_refl _) _).trans (hb6.mono (by simp))
  refine hK _ _ (fun _ h => hb56) ?_
  clear hK K hzl
  repeat (refine mix_pure rfl rfl (fun K hK => ?_); go_simp; refine hK _ ?_; clear hK K)
  refine mix_nil ?_
  replace hB := hB.below hb56 hB.lt
  have hB26 := hB25.below hb56 hB25.lt
  have hb := hb5.trans (hb56.mono hb5.size)
  obtain ⟨Z, hZ⟩ : ∃ Z, Z = chXor key ctr nonce (List.replicate L (0 : BitVec 8)) := ⟨_, rfl⟩
  have HZX : Hid (∀ i, i < L → X.getD i 0 = c.getD i 0 ^^^ Z.getD i 0) := fun i hi => by
    rw [HXe.out, chXor_getElem _ _ _ _ _ (by rw [HL.out]; exact hi), hZ]
    exact congrArg (c.getD i 0 ^^^ ·) (chXor_zeros key nonce ctr L i hi).symm
  have HZF : Hid (Z.take (min L 64) = (chBlock key ctr nonce).take (min L 64)) := by rw [hZ]; exact chXor_first key nonce ctr L
  rw [← hZ] at hB6 HS
  clear hZ hct hb6 hb56 hb5 hB5 hB25 hr5 hc5 hmk
  go_wp2_with fail
  go_loopw [80] (fun i wr => ∃ k : Nat, k ≤ L ∧ i = .int .i64 k ∧ ∃ n, wr = w6.drewN n) (fun i _ => L - (intOf i).toNat)
  case atStart => exact ⟨0, Nat.zero_le _, rfl, 0, rfl⟩
  case round =>
    obtain ⟨k, hk', rfl, n, rfl⟩ := hrel
    by_cases hlt : k < L
    · have i1 : (k : Int) < (L : Int) := by omega
      obtain ⟨ga, off, rfl, hc1⟩ := (hRc.below hb) k (by rw [HL.out]; exact hlt)
      have hc2 := hB26.word k (by rw [HXL.out]; exact hlt)
      have hc3 := hB6.word k (by rw [HS.out]; exact hlt)
      rw [HZX.out k hlt] at hc2
      generalize c.getD k 0 = ck at *
      generalize Z.getD k 0 = zk at *
      have e1 := xor_neq (ck ^^^ zk)
      go_wp2_with fail
      go_quiet (fail)
      go_wp2_with fail
      go_roundw
      case rel =>
        first | exact ⟨k + 1, by omega, by go_num, _, by first | rfl | exact World.drewN_drewN _ _ _⟩ | ((repeat apply Exists.intro); exact ⟨⟨k + 1, by omega, by go_num, _, by first | rfl | exact World.drewN_drewN _ _ _⟩, rfl⟩)
      case measure => simp [intOf]; omega
    · obtain rfl : k = L := by omega
      have hb6 : Below w.heap.size w (w6.drewN n) := below_drewN hb n
      have hB' : Blk (w6.drewN n) w.heap.size (usedC key ctr nonce) 28 := hB
      have hB6' : Blk (w6.drewN n) g6 (encs .u8 Z) 5 := hB6
      have hct : (w6.drewN n).cell? ⟨w.heap.size, 32, none⟩ = some (.int .u32 (wb ctr)) := by rw [hB'.cell, usedC_ctr key ctr nonce HK.out]
      clear hb hB hB6 hB26 hRc hlt
      generalize w6.drewN n = w7 at *
      go_wp2_with (first | (refine wpList_load_part rfl 23 _ rfl w.heap.size 0 rfl 28 _ (0, 0) _ (encL .u8 key) hB' (usedC_key key ctr nonce) Try.underlying23 rfl (by rw [encL_length, HK.out]; exact size23) ?_) | (refine wpList_load_part rfl 26 _ rfl w.heap.size 33 rfl 28 _ (0, 0) _ (encL .u8 nonce) hB' (usedC_nonce key ctr nonce HK.out) Try.underlying26 rfl (by rw [encL_length, HN.out]; exact size26) ?_) | fail)
      clear hct
      simp only [encL_toArray]
      refine (block_any key nonce ctr HK.out HN.out w7).mono ?_
      rintro e w8 ⟨rfl, hb8⟩
      have hB8 := hB6'.below hb8 hB6'.lt
      have hb9 := hb6.trans (hb8.mono hb6.size)
      have HB : Hid ((chBlock key ctr nonce).length = 64) := chBlock_length key ctr nonce
      generalize chBlock key ctr nonce = cb at *
      obtain ⟨n6, hn6⟩ : ∃ n6, n6 = min k 64 := ⟨_, rfl⟩
      have hm6 : imin (k : Int) 64 = (n6 : Int) := by rw [hn6]; exact imin_nat k 64
      have hn1 : (n6 : Int) ≤ (k : Int) := by omega
      have hn2 : (n6 : Int) ≤ 64 := by omega
      have HZ1 : Hid ((Z.take n6).length = n6) := by show _ = _; rw [List.length_take, HS.out]; omega
      have HC1 : Hid ((cb.take n6).length = n6) := by show _ = _; rw [List.length_take, HB.out]; omega
      rw [← hn6] at HZF
      clear hn6 hb8 hB' hB6' hb6
      go_wp2_with (refine wpList_store_last rfl 30 _ _ rfl _ _ _ 30 rfl rfl (by simp; done) (by rw [encs_size, HB.out]; exact size30) (by rw [encs_size, HB.out]; rfl) (encs_one _ _) ?_)
      have hB9 : Blk (w8.alloc (.cells (encs .u8 cb) 30)) w8.heap.size (encs .u8 cb) 30 := Blk.new _ _ _
      have hBz : Blk (w8.alloc (.cells (encs .u8 cb) 30)) g6 (encs .u8 Z) 5 := hB8.alloc _
      have hbf : Below w.heap.size w (w8.alloc (.cells (encs .u8 cb) 30)) := hb9.alloc hb9.size _
      have h8 := w8.heap.size
      obtain ⟨g9, hg9⟩ : ∃ g9, g9 = w8.heap.size := ⟨_, rfl⟩
      rw [← hg9] at hB9 ⊢
      clear hg9 hb9 hB8
      generalize w8.alloc (.cells (encs .u8 cb) 30) = w9 at *
      refine mix_start (fun _ => True) (List.range 11) [9] [] [] (by kernel_rfl) (by kernel_rfl) (fun d _ _ _ _ h => by cases d <;> exact h) trivial ?_
      repeat (refine mix_pure rfl rfl (fun K hK => ?_); go_simp; refine hK _ ?_; clear hK K)
      refine mix_eff rfl rfl (fun K hK => ?_)
      go_simp
      have hx := bytesEqual_any (Z.take n6) (cb.take n6) (some ⟨g6, 0, none⟩) (some ⟨g9, 0, none⟩) k 64 w9.drew (rd_take hBz.rd n6) (rd_take hB9.rd n6)
      rw [HZ1.out, HC1.out] at hx
      refine hx.mono ?_
      clear hx
      rintro e w10 ⟨rfl, rfl⟩
      rw [HZF.out, beq_self_eq_true]
      refine hK _ _ (fun _ h => h) ?_
      clear hK K
      repeat (refine mix_pure rfl rfl (fun K hK => ?_); go_simp; refine hK _ ?_; clear hK K)
      refine mix_nil ?_
      go_wp2_with fail
      go_ret
      exact ⟨rfl, hbf.drew⟩
end Go.Proofs.Ytdpdpeifmignnaa
