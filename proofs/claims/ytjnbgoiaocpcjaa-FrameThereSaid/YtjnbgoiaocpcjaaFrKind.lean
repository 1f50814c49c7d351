/- frame.Kind. -/
import Derived.Test.YtjnbgoiaocpcjaaFrAnnG
namespace Go.Proofs.Ytjnbgoiaocpcjaa
open Go.RowKit
set_option linter.unusedVariables false
set_option linter.unusedSimpArgs false
def upOk (b : List (BitVec 8)) : Bool := szOnion b.length && pkOk 2 b
def downOk (b : List (BitVec 8)) : Bool := szReply b.length && pkOk 3 b
def kindB (b : List (BitVec 8)) : Int := if annOk b then 1 else if upOk b then 2 else if downOk b then 3 else 0
theorem annE_ok (b : List (BitVec 8)) : (annE b == 0) = annOk b := by
  unfold annE annOk
  by_cases h : b.length = 106
  · rw [if_pos h, decide_eq_true h]; cases okA b <;> rfl
  · rw [if_neg h, decide_eq_false h]; rfl
theorem pkE_ok (s k : Bool) : (pkE s k == 0) = (s && k) := by cases s <;> cases k <;> rfl
set_option maxRecDepth 100000 in
set_option maxHeartbeats 4000000 in
theorem kind_any (b : List (BitVec 8)) (v : Value) (w : World) (hb : Arg w v b) (hl : b.length ≤ 1048576) :
    Calls Try.prog 48 #[v] w fun e w' => e = .returned (.int .i64 (kindB b)) ∧ Below w.heap.size w w' := by
  have HB := Lib.hid hb
  obtain ⟨A, cap, rfl, -, -⟩ := hb
  have HA := Lib.hid (getann_any b _ w HB.out hl)
  have HEA := Lib.hid (annE_ok b)
  have HEU := Lib.hid (pkE_ok (szOnion b.length) (pkOk 2 b))
  have HED := Lib.hid (pkE_ok (szReply b.length) (pkOk 3 b))
  have HK : Hid (kindB b = if annOk b then 1 else if szOnion b.length && pkOk 2 b then 2 else if szReply b.length && pkOk 3 b then 3 else 0) := rfl
  have HL := Lib.hid hl
  clear hl
  go_enter Try.func48, Try.ntmps48
  go_wp2_with fail
  refine HA.out.mono ?_
  rintro e w1 ⟨v1, rfl, ho1, hw⟩
  obtain ⟨A1, c1, rfl⟩ := ho1.form
  clear ho1 HA
  have HU := Lib.hid (fun wx (h : Below w.heap.size w wx) => getup_any b _ wx (HB.out.below h) HL.out)
  have HD := Lib.hid (fun wx (h : Below w.heap.size w wx) => getdown_any b _ wx (HB.out.below h) HL.out)
  unfold UpGot UpP at HU HD
  generalize annR b = R1 at *
  generalize annN b = n1 at *
  generalize annE b = E1 at *
  generalize pkC (szOnion b.length && pkOk 2 b) b = C2 at *
  generalize pkS (szOnion b.length && pkOk 2 b) b = S2 at *
  generalize pkR (szOnion b.length && pkOk 2 b) b = R2 at *
  generalize pkE (szOnion b.length) (pkOk 2 b) = E2 at *
  generalize pkC (szReply b.length && pkOk 3 b) b = C3 at *
  generalize pkS (szReply b.length && pkOk 3 b) b = S3 at *
  generalize pkR (szReply b.length && pkOk 3 b) b = R3 at *
  generalize pkE (szReply b.length) (pkOk 3 b) = E3 at *
  have hn2 : Below w1.heap.size w1 (w1.alloc (.cells #[.int .u64 (wb R1), .slice A1 n1 c1] 78)) := (Below.refl _ _).alloc (Nat.le_refl _) _
  have hw2 := hw.trans (hn2.mono hw.size)
  clear hn2 hw
  cases ha : annOk b with
  | true =>
    rw [ha] at HEA HK
    have hE : (E1 == 0) = true := HEA.out
    go_wp2_with (first | (refine wpList_store_last rfl 78 _ _ rfl _ _ #[.int .u64 (wb R1), .slice A1 n1 c1] 78 rfl rfl rfl (by exact size_ann) (by simp) (by simp [Value.oneCell']) ?_; generalize w1.alloc (.cells #[.int .u64 (wb R1), .slice A1 n1 c1] 78) = w2 at *) | fail)
    go_ret
    exact ⟨by rw [HK.out]; rfl, hw2⟩
  | false =>
    rw [ha] at HEA HK
    have hE : (E1 == 0) = false := HEA.out
    go_wp2_with (first | (refine wpList_store_last rfl 78 _ _ rfl _ _ #[.int .u64 (wb R1), .slice A1 n1 c1] 78 rfl rfl rfl (by exact size_ann) (by simp) (by simp [Value.oneCell']) ?_; generalize w1.alloc (.cells #[.int .u64 (wb R1), .slice A1 n1 c1] 78) = w2 at *) | fail)
    refine (HU.out _ hw2).mono ?_
    rintro e w3 ⟨v3, rfl, ho3, hn3⟩
    obtain ⟨A3, c3, rfl, -, -⟩ := ho3.arg
    replace hw2 := hw2.trans (hn3.mono hw2.size)
    clear ho3 hn3 hE
    generalize (pkL (szOnion b.length && pkOk 2 b) b).length = n3 at *
    have hn4 : Below w3.heap.size w3 (w3.alloc (.cells #[.int .i64 C2, .int .i64 S2, .int .u64 (wb R2), .slice A3 n3 c3] 57)) := (Below.refl _ _).alloc (Nat.le_refl _) _
    have hw4 := hw2.trans (hn4.mono hw2.size)
    clear hn4 hw2
    cases hu : (szOnion b.length && pkOk 2 b) with
    | true =>
      rw [hu] at HEU HK
      have hE : (E2 == 0) = true := HEU.out
      go_wp2_with (first | (refine wpList_store_last rfl 57 _ _ rfl _ _ #[.int .i64 C2, .int .i64 S2, .int .u64 (wb R2), .slice A3 n3 c3] 57 rfl rfl rfl (by exact gsize_up) (by simp) (by simp [Value.oneCell']) ?_; generalize w3.alloc (.cells #[.int .i64 C2, .int .i64 S2, .int .u64 (wb R2), .slice A3 n3 c3] 57) = w4 at *) | fail)
      go_ret
      exact ⟨by rw [HK.out]; rfl, hw4⟩
    | false =>
      rw [hu] at HEU HK
      have hE : (E2 == 0) = false := HEU.out
      go_wp2_with (first | (refine wpList_store_last rfl 57 _ _ rfl _ _ #[.int .i64 C2, .int .i64 S2, .int .u64 (wb R2), .slice A3 n3 c3] 57 rfl rfl rfl (by exact gsize_up) (by simp) (by simp [Value.oneCell']) ?_; generalize w3.alloc (.cells #[.int .i64 C2, .int .i64 S2, .int .u64 (wb R2), .slice A3 n3 c3] 57) = w4 at *) | fail)
      refine (HD.out _ hw4).mono ?_
      rintro e w5 ⟨v5, rfl, ho5, hn5⟩
      obtain ⟨A5, c5, rfl, -, -⟩ := ho5.arg
      replace hw4 := hw4.trans (hn5.mono hw4.size)
      clear ho5 hn5 hE
      generalize (pkL (szReply b.length && pkOk 3 b) b).length = n5 at *
      have hn6 : Below w5.heap.size w5 (w5.alloc (.cells #[.int .i64 C3, .int .i64 S3, .int .u64 (wb R3), .slice A5 n5 c5] 59)) := (Below.refl _ _).alloc (Nat.le_refl _) _
      have hw6 := hw4.trans (hn6.mono hw4.size)
      clear hn6 hw4
      cases hd : (szReply b.length && pkOk 3 b) with
      | true =>
        rw [hd] at HED HK
        have hE : (E3 == 0) = true := HED.out
        go_wp2_with (first | (refine wpList_store_last rfl 59 _ _ rfl _ _ #[.int .i64 C3, .int .i64 S3, .int .u64 (wb R3), .slice A5 n5 c5] 59 rfl rfl rfl (by exact gsize_down) (by simp) (by simp [Value.oneCell']) ?_; generalize w5.alloc (.cells #[.int .i64 C3, .int .i64 S3, .int .u64 (wb R3), .slice A5 n5 c5] 59) = w6 at *) | fail)
        go_ret
        exact ⟨by rw [HK.out]; rfl, hw6⟩
      | false =>
        rw [hd] at HED HK
        have hE : (E3 == 0) = false := HED.out
        go_wp2_with (first | (refine wpList_store_last rfl 59 _ _ rfl _ _ #[.int .i64 C3, .int .i64 S3, .int .u64 (wb R3), .slice A5 n5 c5] 59 rfl rfl rfl (by exact gsize_down) (by simp) (by simp [Value.oneCell']) ?_; generalize w5.alloc (.cells #[.int .i64 C3, .int .i64 S3, .int .u64 (wb R3), .slice A5 n5 c5] 59) = w6 at *) | fail)
        go_ret
        exact ⟨by rw [HK.out]; rfl, hw6⟩
end Go.Proofs.Ytjnbgoiaocpcjaa
