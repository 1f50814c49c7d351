/- The walk of ChachaXors. -/
import Derived.Test.YtdpdpeifmignnaaWakes
import Derived.Test.YtdpdpeifmignnaaWTwice
import Derived.Test.YtdpdpeifmignnaaOwn
namespace Go.Proofs.Ytdpdpeifmignnaa
open Go.RowKit
theorem owns_rd {w : World} {base O n cap : Nat} {e : TypeId} {k : IntKind} {m : Nat} {c : List (BitVec m)} {rest : List Value} (h : w.ownsRow base e 1 (.slice (some ⟨O, 0, none⟩) n cap) n (encL k c ++ rest)) : Rd w k (some ⟨O, 0, none⟩) c := by
  intro i hi
  refine ⟨O, 0, rfl, ?_⟩
  have := h.cells (g := O) rfl i (.int k (wb (c.getD i 0))) (by rw [List.getElem?_append_left (by simpa [encL] using hi), encL_get k c i hi])
  have hadd : (⟨O, 0, none⟩ : Addr).add i = ⟨O, i, none⟩ := by unfold Addr.add; split <;> simp_all
  rw [hadd] at this
  rw [Nat.zero_add]
  exact this
theorem owns_last {w : World} {base O n cap : Nat} {e : TypeId} {k : IntKind} {m : Nat} {c : List (BitVec m)} {v : Value} (h : w.ownsRow base e 1 (.slice (some ⟨O, 0, none⟩) n cap) n (encL k c ++ [v])) : w.cell? ⟨O, c.length, none⟩ = some v := by
  have := h.cells (g := O) rfl c.length v (by rw [List.getElem?_append_right (by simp [encL])]; simp [encL])
  have hadd : (⟨O, 0, none⟩ : Addr).add c.length = ⟨O, c.length, none⟩ := by unfold Addr.add; split <;> simp_all
  rwa [hadd] at this
attribute [local go_sem] min_imin
set_option maxHeartbeats 4000000 in
theorem xors_walk (key nonce b : List (BitVec 8)) (ctr : BitVec 32) (A : Option Addr) (cap : Nat) (hk : key.length = 32) (hn : nonce.length = 12) (hcap : b.length ≤ cap) (w : World) (hR : Rd w .u8 A b) :
    Calls Try.prog 6 #[.agg (usedC key ctr nonce), .slice A b.length cap] w fun e w' => e = .returned (.bool true) ∧ Below w.heap.size w w' := by
  have HK := Lib.hid hk
  have HN := Lib.hid hn
  clear hk hn
  obtain ⟨L, hL⟩ : ∃ L, L = min b.length 4000 := ⟨_, rfl⟩
  obtain ⟨c, hc⟩ : ∃ c, c = b.take L := ⟨_, rfl⟩
  have hcl : c.length = L := by rw [hc, List.length_take, hL]; omega
  have hRc : Rd w .u8 A c := by rw [hc]; exact rd_take hR L
  have hmin : imin (b.length : Int) 4000 = (L : Int) := by rw [hL]; exact imin_nat b.length 4000
  have hLl : L ≤ 4000 := by omega
  have hLb : (L : Int) ≤ (cap : Int) := by omega
  clear hL hc
  generalize b.length = len at *
  have HL := Lib.hid hcl
  clear hcl
  obtain ⟨i5, hi5, hz5, hs5, hb5⟩ := info_parts mem5
  have Hi5 := Lib.hid hi5
  have Hs5 := Lib.hid hs5
  clear hi5 hz5 hs5 hb5
  have hmk : ∀ wx, (Instr.makeSlice 38 (.int .i64 0) (.int .i64 ((L : Int) + 3))).run Try.prog wx = .ok (.slice (some ⟨wx.heap.size, 0, none⟩) 0 (L + 3)) (wx.alloc (.cells (encs .u8 (List.replicate (L + 3) (0 : BitVec 8))) 5)) := fun wx => by
    have := run_make_room (P := Try.prog) 38 5 .u8 8 1 Try.underlying38 mem5 (L + 3) (by omega) (by omega) wx
    rw [show (((L + 3 : Nat) : Int)) = (L : Int) + 3 by omega] at this
    exact this
  go_enter Try.func6, Try.ntmps6
  go_wp2_with fail
  refine (wakes_any _).mono ?_
  rintro e w1 ⟨rfl, hb1⟩
  have hB : Blk w1 w.heap.size (usedC key ctr nonce) 28 := (Blk.new w _ _).below hb1 (by simp)
  have hw1 : w.heap.size + 1 ≤ w1.heap.size := by have := hb1.size; simpa using this
  have hb : Below w.heap.size w w1 := ((Below.refl _ _).alloc (Nat.le_refl _) _).trans (hb1.mono (by simp))
  clear hb1
  go_upto_region 5 with (first | (refine wpList_append_words _ rfl _ _ 38 rfl (w.heap.size + 1) 5 i5 Try.underlying38 Hi5.out Hs5.out w1.heap.size 0 (L + 3) [] rfl (owns_made (l := List.replicate (L + 3) (0 : BitVec 8)) (Blk.new _ _ _) hw1 (by simp) (by simp only [maxLen]; omega)) A cap c (by rw [HL.out]; rfl) (hRc.below (((Below.refl _ _).trans hb).alloc hb.size _)) (by rw [HL.out]; omega) ?_; intro w2 hV2 hgr2; simp only [HL.out, Nat.zero_add, List.nil_append] at hV2 ⊢) | (refine wpList_append_own_spare _ rfl _ _ 38 rfl (w.heap.size + 1) 5 i5 1 Try.underlying38 Hi5.out Hs5.out w1.heap.size L (L + 3) (encL .u8 c) rfl (hV2.alloc _) ⟨w2.heap.size, 0, none⟩ 1 1 [.int .u8 7] rfl rfl (cell_one_new _ _ _) (by simp [Value.oneCell']) (by omega) ?_; intro w3 hV3 hgr3) | fail)
  obtain ⟨O, hO⟩ : ∃ O, O = w1.heap.size := ⟨_, rfl⟩
  have hb3 : Below w.heap.size w w3 := by
    refine below_grown ?_ ?_ hgr3 (fun q hq => ?_)
    · refine Below.alloc ?_ ?_ _
      · exact below_grown (hb.alloc hb.size _) (by have := hb.size; simp; omega) hgr2 (fun q hq => by simp only [Option.some.injEq] at hq; omega)
      · have := hgr2.size
        simp at this
        omega
    · have := hgr2.size
      simp at this ⊢
      omega
    · simp only [Option.some.injEq] at hq
      omega
  have hB3 : Blk w3 w.heap.size (usedC key ctr nonce) 28 := (((hB.alloc _).grown hgr2 (by simp; omega)).alloc _).grown hgr3 (by simp; omega)
  rw [← hO] at hV3 ⊢
  clear hB hb hgr2 hgr3 hV2 hO hw1 hmin hLb hmk
  have hct : w3.cell? ⟨w.heap.size, 32, none⟩ = some (.int .u32 (wb ctr)) := by rw [hB3.cell, usedC_ctr key ctr nonce HK.out]
  have hB := hB3
  go_wp2_with (first | (refine wpList_load_part rfl 23 _ rfl w.heap.size 0 rfl 28 _ (0, 0) _ (encL .u8 key) hB (usedC_key key ctr nonce) Try.underlying23 rfl (by rw [encL_length, HK.out]; exact size23) ?_) | (refine wpList_load_part rfl 26 _ rfl w.heap.size 33 rfl 28 _ (0, 0) _ (encL .u8 nonce) hB (usedC_nonce key ctr nonce HK.out) Try.underlying26 rfl (by rw [encL_length, HN.out]; exact size26) ?_) | fail)
  simp only [encL_toArray]
  have hx := refXor_any key nonce c ctr A cap HK.out HN.out (by rw [HL.out]; omega) w3 (hRc.below (hb3))
  rw [HL.out] at hx
  refine hx.mono ?_
  clear hx
  rintro e w4 ⟨A6, cap6, rfl, hc6, hR6, hb4⟩
  have HYL : Hid ((chXor key ctr nonce c).length = L) := (chXor_length key ctr nonce c).trans HL.out
  obtain ⟨Y, hYe⟩ : ∃ Y, Y = chXor key ctr nonce c := ⟨_, rfl⟩
  have HY := Lib.hid hYe
  rw [← hYe] at hc6 hR6 HYL ⊢
  clear hYe
  simp only [HYL.out] at hc6 ⊢
  replace hV3 := owns_below hV3 hb4
  replace hB3 := hB3.below hb4 hB3.lt
  have hb := hb3.trans (hb4.mono hb3.size)
  clear hb3 hb4 hct hB
  go_wp2_with fail
  go_loopw [7] (fun i wr => ∃ n : Nat, n ≤ 2 ∧ i = .int .i64 n ∧ wr.ownsRow (w.heap.size + 1) 5 1 (.slice (some ⟨O, 0, none⟩) (L + 1) (L + 3)) (L + 1) (encL .u8 c ++ [.int .u8 7]) ∧ Rd wr .u8 A6 Y ∧ Blk wr w.heap.size (usedC key ctr nonce) 28 ∧ Below w.heap.size w wr) (fun i _ => 2 - (intOf i).toNat)
  case atStart => exact ⟨0, by omega, rfl, hV3, hR6, hB3, hb⟩
  case round =>
    clear hV3 hR6 hB3 hb
    obtain ⟨n, hn, rfl, hV, hR6, hB, hb⟩ := hrel
    by_cases hlt : n < 2
    · have i1 : (n : Int) < 2 := by omega
      have hct : wr.cell? ⟨w.heap.size, 32, none⟩ = some (.int .u32 (wb ctr)) := by rw [hB.cell, usedC_ctr key ctr nonce HK.out]
      have hLL : (L : Int) ≤ (L : Int) + 3 := by omega
      go_wp2_with fail
      refine mix_start (fun w' => Below wr.heap.size wr w') (List.range 12) [10] [1, 3, 5] [] (by kernel_rfl) (by kernel_rfl) (fun d _ _ _ _ h => by cases d <;> exact h) (Below.refl _ _).drew ?_
      repeat (refine mix_pure rfl rfl (fun K hK => ?_); go_simp; refine hK _ ?_; clear hK K)
      refine mix_load_part rfl rfl rfl rfl 23 _ rfl w.heap.size 0 rfl 28 _ (0, 0) _ (encL .u8 key) (fun w' hS => hB.below hS hB.lt) (usedC_key key ctr nonce) Try.underlying23 rfl (by rw [encL_length, HK.out]; exact size23) ?_
      repeat (refine mix_pure rfl rfl (fun K hK => ?_); go_simp; refine hK _ ?_; clear hK K)
      refine mix_read (.int .u32 (wb ctr)) rfl rfl rfl rfl (fun w' hS => ?_) ?_
      · have hc' := below_cell hS hct
        go_simp
      repeat (refine mix_pure rfl rfl (fun K hK => ?_); go_simp; refine hK _ ?_; clear hK K)
      refine mix_load_part rfl rfl rfl rfl 26 _ rfl w.heap.size 33 rfl 28 _ (0, 0) _ (encL .u8 nonce) (fun w' hS => hB.below hS hB.lt) (usedC_nonce key ctr nonce HK.out) Try.underlying26 rfl (by rw [encL_length, HN.out]; exact size26) ?_
      repeat (refine mix_pure rfl rfl (fun K hK => ?_); go_simp; refine hK _ ?_; clear hK K)
      simp only [encL_toArray]
      refine mix_eff rfl rfl (fun K hK => ?_)
      go_simp
      have hx := xor_any key nonce c ctr (some ⟨O, 0, none⟩) (L + 3) HK.out HN.out (by rw [HL.out]; omega) wr.drew (owns_rd hV.drew)
      rw [HL.out] at hx
      refine hx.mono ?_
      clear hx
      rintro e w5 ⟨g8, rfl, hB8, hg8, hb5⟩
      refine hK _ _ (fun _ h => h.trans (hb5.mono h.size)) ?_
      clear hK K
      rw [← HY.out] at hB8 ⊢
      simp only [HYL.out]
      repeat (refine mix_pure rfl rfl (fun K hK => ?_); go_simp; refine hK _ ?_; clear hK K)
      refine mix_nil ?_
      have hVr := Lib.hid hV
      have hR6r := Lib.hid hR6
      have hBr := Lib.hid hB
      have hbr := Lib.hid hb
      have hbN : Below wr.heap.size wr w5 := (Below.refl _ _).drew.trans hb5
      replace hg8 : wr.heap.size ≤ g8 := hg8
      replace hV := owns_below hV.drew hb5
      replace hR6 : Rd w5 .u8 A6 Y := Rd.below (w := wr.drew) hR6 hb5
      replace hB := Blk.below (w := wr.drew) hB hb5 hB.lt
      replace hb := hb.drew.trans (hb5.mono hb.drew.size)
      clear hb5 hct
      have hlast := owns_last hV
      rw [HL.out] at hlast
      have hx1 := bytesEqual_any Y Y (some ⟨g8, 0, none⟩) A6 L cap6 w5 hB8.rd hR6
      have hx2 := bytesEqual_any c c (some ⟨O, 0, none⟩) A (L + 3) cap w5 (owns_rd hV) (hRc.below hb)
      rw [HYL.out] at hx1
      rw [HL.out] at hx2
      have Hx1 := Lib.hid hx1
      have Hx2 := Lib.hid hx2
      clear hx1 hx2
      go_wp2_with fail
      refine Hx1.out.mono ?_
      rintro e w' ⟨rfl, rfl⟩
      simp only [beq_self_eq_true]
      go_wp2_with fail
      refine Hx2.out.mono ?_
      rintro e w' ⟨rfl, rfl⟩
      simp only [beq_self_eq_true]
      have hL1 : (L : Int) < (L : Int) + 1 := by omega
      go_wp2_with fail
      clear hlast Hx1 Hx2 hV hR6 hB hb
      go_loopw [71] (fun i wx => ∃ k : Nat, k ≤ L ∧ i = .int .i64 k ∧ (∃ z : List (BitVec 8), Blk wx g8 (encs .u8 z) 5 ∧ z.length = L) ∧ Below wr.heap.size wr wx) (fun i _ => L - (intOf i).toNat)
      case atStart => exact ⟨0, by omega, rfl, ⟨Y, hB8, HYL.out⟩, hbN⟩
      case round =>
        clear hB8 hbN
        obtain ⟨k, hk, rfl, ⟨z, hz, hzl⟩, hbx⟩ := hrel
        have HZ := Lib.hid hzl
        clear hzl
        by_cases hkt : k < L
        · have i2 : (k : Int) < (L : Int) := by omega
          have hzw := hz.word k (by rw [HZ.out]; omega)
          have hzf := hz.frozen k
          go_wp2_with fail
          clear hzw hzf
          go_roundw
          case rel =>
            have q := hz.put k 238#8
            rw [show wb 238#8 = 238 from rfl] at q
            have q2 := below_setCell hbx hg8 k (.int .u8 238)
            first | exact ⟨k + 1, by omega, by go_num, ⟨_, q, by rw [List.length_set, HZ.out]⟩, q2⟩ | ((repeat apply Exists.intro); exact ⟨⟨k + 1, by omega, by go_num, ⟨_, q, by rw [List.length_set, HZ.out]⟩, q2⟩, rfl⟩)
          case measure => simp [intOf]; omega
        · obtain rfl : k = L := by omega
          go_wp2_with fail
          go_roundw
          case rel =>
            first | exact ⟨n + 1, by omega, by go_num, owns_below hVr.out hbx, hR6r.out.below hbx, hBr.out.below hbx hBr.out.lt, hbr.out.trans (hbx.mono hbr.out.size)⟩ | ((repeat apply Exists.intro); exact ⟨⟨n + 1, by omega, by go_num, owns_below hVr.out hbx, hR6r.out.below hbx, hBr.out.below hbx hBr.out.lt, hbr.out.trans (hbx.mono hbr.out.size)⟩, rfl⟩)
          case measure => simp [intOf]; omega
    · obtain rfl : n = 2 := by omega
      go_wp2
      go_ret
      exact ⟨rfl, hb⟩
end Go.Proofs.Ytdpdpeifmignnaa
