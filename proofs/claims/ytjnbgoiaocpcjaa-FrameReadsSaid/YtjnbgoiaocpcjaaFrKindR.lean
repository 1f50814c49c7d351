/- The reference's Kind (printed by genrkind.py). -/
import Derived.Test.YtjnbgoiaocpcjaaFrKind
import Derived.Test.YtjnbgoiaocpcjaaFrRefA
import Derived.Test.YtjnbgoiaocpcjaaFrRefU
namespace Go.Proofs.Ytjnbgoiaocpcjaa
open Go.RowKit
set_option linter.unusedVariables false
set_option linter.unusedSimpArgs false
set_option maxRecDepth 100000 in
set_option maxHeartbeats 4000000 in
theorem rkind_any (b : List (BitVec 8)) (v : Value) (w : World) (hb : Arg w v b) (hl : b.length ≤ 1048576) :
    Calls Try.prog 49 #[v] w fun e w' => e = .returned (.int .i64 (kindB b)) ∧ Below w.heap.size w w' := by
  have HB := Lib.hid hb
  obtain ⟨A, cap, rfl, -, -⟩ := hb
  have HK : Hid (kindB b = if annOk b then 1 else if szOnion b.length && pkOk 2 b then 2 else if szReply b.length && pkOk 3 b then 3 else 0) := rfl
  have HL := Lib.hid hl
  have hwr : IntKind.i64.wrap ((b.length : Int) - 11) = (b.length : Int) - 11 := IntWalk.i64_in _ (by omega)
  have HO := Lib.hid (fun wx => ronion_any ((b.length : Int) - 11) wx)
  have HR := Lib.hid (fun wx => rreply_any ((b.length : Int) - 11) wx)
  have HS1 : Hid (szOnion b.length = true → 11 ≤ b.length) := by show _ → _; unfold szOnion onionB; simp; omega
  have HS2 : Hid (szReply b.length = true → 11 ≤ b.length) := by show _ → _; unfold szReply replyB; simp; omega
  have HSO : Hid ((decide ((b.length : Int) - 11 = 194) || decide ((b.length : Int) - 11 = 242) || decide ((b.length : Int) - 11 = 290)) = szOnion b.length) := rfl
  have HSR : Hid ((decide ((b.length : Int) - 11 = 146) || decide ((b.length : Int) - 11 = 162) || decide ((b.length : Int) - 11 = 178)) = szReply b.length) := rfl
  by_cases h106 : b.length = 106
  · have h106b : ((b.length : Int) == 106) = true := by rw [h106]; rfl
    have HG := Lib.hid (rgetann_any b _ w HB.out h106)
    have HA : Hid (annOk b = okA b) := by show _ = _; simp [annOk, h106]
    rw [HA.out] at HK
    replace h106 := Lib.hid h106
    clear hl
    go_enter Try.func49, Try.ntmps49
    go_wp2_with fail
    refine HG.out.mono ?_
    rintro e w1 ⟨Ra, va, na, la, rfl, hoa, -, hw⟩
    obtain ⟨Aa, ca, rfl⟩ := hoa.form
    clear hoa HG
    have hn := (Below.refl w1.heap.size w1).alloc (Nat.le_refl _) (.cells #[.int .u64 (wb Ra), .slice Aa na ca] 78)
    replace hw := hw.trans (hn.mono hw.size)
    clear hn
    cases ha : okA b with
    | true =>
      rw [ha] at HK
      go_wp2_with (first | (refine wpList_store_last rfl 78 _ _ rfl _ _ #[.int .u64 (wb Ra), .slice Aa na ca] 78 rfl rfl rfl (by exact rsize_ann) (by simp) (by simp [Value.oneCell']) ?_; generalize w1.alloc (.cells #[.int .u64 (wb Ra), .slice Aa na ca] 78) = w2 at *) | fail)
      go_ret
      exact ⟨by rw [HK.out]; rfl, hw⟩
    | false =>
      rw [ha] at HK
      go_wp2_with (first | (refine wpList_store_last rfl 78 _ _ rfl _ _ #[.int .u64 (wb Ra), .slice Aa na ca] 78 rfl rfl rfl (by exact rsize_ann) (by simp) (by simp [Value.oneCell']) ?_; generalize w1.alloc (.cells #[.int .u64 (wb Ra), .slice Aa na ca] 78) = w2 at *) | fail)
      refine (HO.out w2).mono ?_
      rintro e w' ⟨⟨h, rfl, h0, h1⟩, rfl⟩
      rw [HSO.out] at h1
      cases hz : szOnion b.length with
      | false =>
        rw [hz] at h1 HK
        have hh : ¬ (0 < h) := of_decide_eq_false h1
        clear h1
        go_wp2_with fail
        clear hz hh h0
        refine (HR.out w2).mono ?_
        rintro e w' ⟨⟨h, rfl, h0, h1⟩, rfl⟩
        rw [HSR.out] at h1
        cases hz : szReply b.length with
        | false =>
          rw [hz] at h1 HK
          have hh : ¬ (0 < h) := of_decide_eq_false h1
          clear h1
          go_wp2_with fail
          go_ret
          exact ⟨by rw [HK.out]; rfl, hw⟩
        | true =>
          rw [hz] at h1 HK
          have hh : 0 < h := of_decide_eq_true h1
          clear h1
          go_wp2_with fail
          refine (rgetdown_any b _ w2 (HB.out.below hw) HL.out (HS2.out hz)).mono ?_
          rintro e w12 ⟨v12, rfl, ho12, hn⟩
          obtain ⟨A12, c12, rfl, -, -⟩ := id ho12
          replace hw := hw.trans (hn.mono hw.size)
          clear ho12 hn
          generalize (b.drop 11).length = n12 at *
          generalize wb (b.getD 1 0) = C12 at *
          generalize wb (b.getD 2 0) = S12 at *
          generalize get64 (b.drop 3) = R12 at *
          have hn := (Below.refl w12.heap.size w12).alloc (Nat.le_refl _) (.cells #[.int .i64 C12, .int .i64 S12, .int .u64 (wb R12), .slice A12 n12 c12] 59)
          replace hw := hw.trans (hn.mono hw.size)
          clear hn
          cases hp : pkOk 3 b with
          | true =>
            rw [hp] at HK
            go_wp2_with (first | (refine wpList_store_last rfl 59 _ _ rfl _ _ #[.int .i64 C12, .int .i64 S12, .int .u64 (wb R12), .slice A12 n12 c12] 59 rfl rfl rfl (by exact gsize_down) (by simp) (by simp [Value.oneCell']) ?_; generalize w12.alloc (.cells #[.int .i64 C12, .int .i64 S12, .int .u64 (wb R12), .slice A12 n12 c12] 59) = w12a at *) | fail)
            go_ret
            exact ⟨by rw [HK.out]; rfl, hw⟩
          | false =>
            rw [hp] at HK
            go_wp2_with (first | (refine wpList_store_last rfl 59 _ _ rfl _ _ #[.int .i64 C12, .int .i64 S12, .int .u64 (wb R12), .slice A12 n12 c12] 59 rfl rfl rfl (by exact gsize_down) (by simp) (by simp [Value.oneCell']) ?_; generalize w12.alloc (.cells #[.int .i64 C12, .int .i64 S12, .int .u64 (wb R12), .slice A12 n12 c12] 59) = w12a at *) | fail)
            go_ret
            exact ⟨by rw [HK.out]; rfl, hw⟩
      | true =>
        rw [hz] at h1 HK
        have hh : 0 < h := of_decide_eq_true h1
        clear h1
        go_wp2_with fail
        refine (rgetup_any b _ w2 (HB.out.below hw) HL.out (HS1.out hz)).mono ?_
        rintro e w11 ⟨v11, rfl, ho11, hn⟩
        obtain ⟨A11, c11, rfl, -, -⟩ := id ho11
        replace hw := hw.trans (hn.mono hw.size)
        clear ho11 hn
        generalize (b.drop 11).length = n11 at *
        generalize wb (b.getD 1 0) = C11 at *
        generalize wb (b.getD 2 0) = S11 at *
        generalize get64 (b.drop 3) = R11 at *
        have hn := (Below.refl w11.heap.size w11).alloc (Nat.le_refl _) (.cells #[.int .i64 C11, .int .i64 S11, .int .u64 (wb R11), .slice A11 n11 c11] 57)
        replace hw := hw.trans (hn.mono hw.size)
        clear hn
        cases hp : pkOk 2 b with
        | true =>
          rw [hp] at HK
          go_wp2_with (first | (refine wpList_store_last rfl 57 _ _ rfl _ _ #[.int .i64 C11, .int .i64 S11, .int .u64 (wb R11), .slice A11 n11 c11] 57 rfl rfl rfl (by exact gsize_up) (by simp) (by simp [Value.oneCell']) ?_; generalize w11.alloc (.cells #[.int .i64 C11, .int .i64 S11, .int .u64 (wb R11), .slice A11 n11 c11] 57) = w11a at *) | fail)
          go_ret
          exact ⟨by rw [HK.out]; rfl, hw⟩
        | false =>
          rw [hp] at HK
          go_wp2_with (first | (refine wpList_store_last rfl 57 _ _ rfl _ _ #[.int .i64 C11, .int .i64 S11, .int .u64 (wb R11), .slice A11 n11 c11] 57 rfl rfl rfl (by exact gsize_up) (by simp) (by simp [Value.oneCell']) ?_; generalize w11.alloc (.cells #[.int .i64 C11, .int .i64 S11, .int .u64 (wb R11), .slice A11 n11 c11] 57) = w11a at *) | fail)
          clear hz hh h0
          refine (HR.out w11a).mono ?_
          rintro e w' ⟨⟨h, rfl, h0, h1⟩, rfl⟩
          rw [HSR.out] at h1
          cases hz : szReply b.length with
          | false =>
            rw [hz] at h1 HK
            have hh : ¬ (0 < h) := of_decide_eq_false h1
            clear h1
            go_wp2_with fail
            go_ret
            exact ⟨by rw [HK.out]; rfl, hw⟩
          | true =>
            rw [hz] at h1 HK
            have hh : 0 < h := of_decide_eq_true h1
            clear h1
            go_wp2_with fail
            refine (rgetdown_any b _ w11a (HB.out.below hw) HL.out (HS2.out hz)).mono ?_
            rintro e w13 ⟨v13, rfl, ho13, hn⟩
            obtain ⟨A13, c13, rfl, -, -⟩ := id ho13
            replace hw := hw.trans (hn.mono hw.size)
            clear ho13 hn
            generalize (b.drop 11).length = n13 at *
            generalize wb (b.getD 1 0) = C13 at *
            generalize wb (b.getD 2 0) = S13 at *
            generalize get64 (b.drop 3) = R13 at *
            have hn := (Below.refl w13.heap.size w13).alloc (Nat.le_refl _) (.cells #[.int .i64 C13, .int .i64 S13, .int .u64 (wb R13), .slice A13 n13 c13] 59)
            replace hw := hw.trans (hn.mono hw.size)
            clear hn
            cases hp : pkOk 3 b with
            | true =>
              rw [hp] at HK
              go_wp2_with (first | (refine wpList_store_last rfl 59 _ _ rfl _ _ #[.int .i64 C13, .int .i64 S13, .int .u64 (wb R13), .slice A13 n13 c13] 59 rfl rfl rfl (by exact gsize_down) (by simp) (by simp [Value.oneCell']) ?_; generalize w13.alloc (.cells #[.int .i64 C13, .int .i64 S13, .int .u64 (wb R13), .slice A13 n13 c13] 59) = w13a at *) | fail)
              go_ret
              exact ⟨by rw [HK.out]; rfl, hw⟩
            | false =>
              rw [hp] at HK
              go_wp2_with (first | (refine wpList_store_last rfl 59 _ _ rfl _ _ #[.int .i64 C13, .int .i64 S13, .int .u64 (wb R13), .slice A13 n13 c13] 59 rfl rfl rfl (by exact gsize_down) (by simp) (by simp [Value.oneCell']) ?_; generalize w13.alloc (.cells #[.int .i64 C13, .int .i64 S13, .int .u64 (wb R13), .slice A13 n13 c13] 59) = w13a at *) | fail)
              go_ret
              exact ⟨by rw [HK.out]; rfl, hw⟩
  · have h106b : ((b.length : Int) == 106) = false := by
      rw [beq_eq_false_iff_ne]; omega
    have HA : Hid (annOk b = false) := by show _ = _; simp [annOk, h106]
    rw [HA.out] at HK
    replace h106 := Lib.hid h106
    have hw := Below.refl w.heap.size w
    clear hl
    go_enter Try.func49, Try.ntmps49
    go_wp2_with fail
    refine (HO.out w).mono ?_
    rintro e w' ⟨⟨h, rfl, h0, h1⟩, rfl⟩
    rw [HSO.out] at h1
    cases hz : szOnion b.length with
    | false =>
      rw [hz] at h1 HK
      have hh : ¬ (0 < h) := of_decide_eq_false h1
      clear h1
      go_wp2_with fail
      clear hz hh h0
      refine (HR.out w).mono ?_
      rintro e w' ⟨⟨h, rfl, h0, h1⟩, rfl⟩
      rw [HSR.out] at h1
      cases hz : szReply b.length with
      | false =>
        rw [hz] at h1 HK
        have hh : ¬ (0 < h) := of_decide_eq_false h1
        clear h1
        go_wp2_with fail
        go_ret
        exact ⟨by rw [HK.out]; rfl, hw⟩
      | true =>
        rw [hz] at h1 HK
        have hh : 0 < h := of_decide_eq_true h1
        clear h1
        go_wp2_with fail
        refine (rgetdown_any b _ w (HB.out.below hw) HL.out (HS2.out hz)).mono ?_
        rintro e w15 ⟨v15, rfl, ho15, hn⟩
        obtain ⟨A15, c15, rfl, -, -⟩ := id ho15
        replace hw := hw.trans (hn.mono hw.size)
        clear ho15 hn
        generalize (b.drop 11).length = n15 at *
        generalize wb (b.getD 1 0) = C15 at *
        generalize wb (b.getD 2 0) = S15 at *
        generalize get64 (b.drop 3) = R15 at *
        have hn := (Below.refl w15.heap.size w15).alloc (Nat.le_refl _) (.cells #[.int .i64 C15, .int .i64 S15, .int .u64 (wb R15), .slice A15 n15 c15] 59)
        replace hw := hw.trans (hn.mono hw.size)
        clear hn
        cases hp : pkOk 3 b with
        | true =>
          rw [hp] at HK
          go_wp2_with (first | (refine wpList_store_last rfl 59 _ _ rfl _ _ #[.int .i64 C15, .int .i64 S15, .int .u64 (wb R15), .slice A15 n15 c15] 59 rfl rfl rfl (by exact gsize_down) (by simp) (by simp [Value.oneCell']) ?_; generalize w15.alloc (.cells #[.int .i64 C15, .int .i64 S15, .int .u64 (wb R15), .slice A15 n15 c15] 59) = w15a at *) | fail)
          go_ret
          exact ⟨by rw [HK.out]; rfl, hw⟩
        | false =>
          rw [hp] at HK
          go_wp2_with (first | (refine wpList_store_last rfl 59 _ _ rfl _ _ #[.int .i64 C15, .int .i64 S15, .int .u64 (wb R15), .slice A15 n15 c15] 59 rfl rfl rfl (by exact gsize_down) (by simp) (by simp [Value.oneCell']) ?_; generalize w15.alloc (.cells #[.int .i64 C15, .int .i64 S15, .int .u64 (wb R15), .slice A15 n15 c15] 59) = w15a at *) | fail)
          go_ret
          exact ⟨by rw [HK.out]; rfl, hw⟩
    | true =>
      rw [hz] at h1 HK
      have hh : 0 < h := of_decide_eq_true h1
      clear h1
      go_wp2_with fail
      refine (rgetup_any b _ w (HB.out.below hw) HL.out (HS1.out hz)).mono ?_
      rintro e w14 ⟨v14, rfl, ho14, hn⟩
      obtain ⟨A14, c14, rfl, -, -⟩ := id ho14
      replace hw := hw.trans (hn.mono hw.size)
      clear ho14 hn
      generalize (b.drop 11).length = n14 at *
      generalize wb (b.getD 1 0) = C14 at *
      generalize wb (b.getD 2 0) = S14 at *
      generalize get64 (b.drop 3) = R14 at *
      have hn := (Below.refl w14.heap.size w14).alloc (Nat.le_refl _) (.cells #[.int .i64 C14, .int .i64 S14, .int .u64 (wb R14), .slice A14 n14 c14] 57)
      replace hw := hw.trans (hn.mono hw.size)
      clear hn
      cases hp : pkOk 2 b with
      | true =>
        rw [hp] at HK
        go_wp2_with (first | (refine wpList_store_last rfl 57 _ _ rfl _ _ #[.int .i64 C14, .int .i64 S14, .int .u64 (wb R14), .slice A14 n14 c14] 57 rfl rfl rfl (by exact gsize_up) (by simp) (by simp [Value.oneCell']) ?_; generalize w14.alloc (.cells #[.int .i64 C14, .int .i64 S14, .int .u64 (wb R14), .slice A14 n14 c14] 57) = w14a at *) | fail)
        go_ret
        exact ⟨by rw [HK.out]; rfl, hw⟩
      | false =>
        rw [hp] at HK
        go_wp2_with (first | (refine wpList_store_last rfl 57 _ _ rfl _ _ #[.int .i64 C14, .int .i64 S14, .int .u64 (wb R14), .slice A14 n14 c14] 57 rfl rfl rfl (by exact gsize_up) (by simp) (by simp [Value.oneCell']) ?_; generalize w14.alloc (.cells #[.int .i64 C14, .int .i64 S14, .int .u64 (wb R14), .slice A14 n14 c14] 57) = w14a at *) | fail)
        clear hz hh h0
        refine (HR.out w14a).mono ?_
        rintro e w' ⟨⟨h, rfl, h0, h1⟩, rfl⟩
        rw [HSR.out] at h1
        cases hz : szReply b.length with
        | false =>
          rw [hz] at h1 HK
          have hh : ¬ (0 < h) := of_decide_eq_false h1
          clear h1
          go_wp2_with fail
          go_ret
          exact ⟨by rw [HK.out]; rfl, hw⟩
        | true =>
          rw [hz] at h1 HK
          have hh : 0 < h := of_decide_eq_true h1
          clear h1
          go_wp2_with fail
          refine (rgetdown_any b _ w14a (HB.out.below hw) HL.out (HS2.out hz)).mono ?_
          rintro e w16 ⟨v16, rfl, ho16, hn⟩
          obtain ⟨A16, c16, rfl, -, -⟩ := id ho16
          replace hw := hw.trans (hn.mono hw.size)
          clear ho16 hn
          generalize (b.drop 11).length = n16 at *
          generalize wb (b.getD 1 0) = C16 at *
          generalize wb (b.getD 2 0) = S16 at *
          generalize get64 (b.drop 3) = R16 at *
          have hn := (Below.refl w16.heap.size w16).alloc (Nat.le_refl _) (.cells #[.int .i64 C16, .int .i64 S16, .int .u64 (wb R16), .slice A16 n16 c16] 59)
          replace hw := hw.trans (hn.mono hw.size)
          clear hn
          cases hp : pkOk 3 b with
          | true =>
            rw [hp] at HK
            go_wp2_with (first | (refine wpList_store_last rfl 59 _ _ rfl _ _ #[.int .i64 C16, .int .i64 S16, .int .u64 (wb R16), .slice A16 n16 c16] 59 rfl rfl rfl (by exact gsize_down) (by simp) (by simp [Value.oneCell']) ?_; generalize w16.alloc (.cells #[.int .i64 C16, .int .i64 S16, .int .u64 (wb R16), .slice A16 n16 c16] 59) = w16a at *) | fail)
            go_ret
            exact ⟨by rw [HK.out]; rfl, hw⟩
          | false =>
            rw [hp] at HK
            go_wp2_with (first | (refine wpList_store_last rfl 59 _ _ rfl _ _ #[.int .i64 C16, .int .i64 S16, .int .u64 (wb R16), .slice A16 n16 c16] 59 rfl rfl rfl (by exact gsize_down) (by simp) (by simp [Value.oneCell']) ?_; generalize w16.alloc (.cells #[.int .i64 C16, .int .i64 S16, .int .u64 (wb R16), .slice A16 n16 c16] 59) = w16a at *) | fail)
            go_ret
            exact ⟨by rw [HK.out]; rfl, hw⟩
end Go.Proofs.Ytjnbgoiaocpcjaa
