/- However bytes are cut, their hash is the same. -/
import Derived.Test.YtpledkahbifnfaaRefV
namespace Go.Proofs.Ytpledkahbifnfaa
open Go.RowKit
set_option linter.unusedVariables false
set_option linter.unusedSimpArgs false
attribute [local go_sem] min_imin
theorem run_slice_mid {P : Program} {t e : TypeId} {z : Value} {bytes : Nat} (T : ElemT P t e z 1 bytes) (A : Option Addr) (len cap a n : Nat) (h : a + n ≤ cap) (w : World) :
    (Instr.slice t (.slice A len cap) (some (.int .i64 (a : Int))) (some (.int .i64 ((a : Int) + (n : Int)))) none).run P w = .ok (.slice (cutA A a cap 1) n (cap - a)) w := by
  have := run_slice_row T A len cap (a : Int) ((a : Int) + (n : Int)) .i64 .i64 (by omega) (by omega) (by omega) w
  rw [Int.toNat_natCast, show ((a : Int) + (n : Int)).toNat - a = n by omega] at this
  exact this
set_option maxRecDepth 100000 in
set_option maxHeartbeats 4000000 in
theorem whole_walk (b cuts : List (BitVec 8)) (A C : Option Addr) (cap capc : Nat) (w : World) (hR : Rd w .u8 A b) (hc : b.length ≤ cap) (hlen : b.length ≤ 140737488351232) (hRC : Rd w .u8 C cuts) (hlc : cuts.length ≤ 140737488351232) :
    Calls Try.prog 5 #[.slice A b.length cap, .slice C cuts.length capc] w fun e w' => e = .returned (.bool true) ∧ Below w.heap.size w w' := by
  have HA : Hid (Arg w (.slice A b.length cap) b) := ⟨A, cap, rfl, hc, hR⟩
  have HR := Lib.hid hR
  have HRC := Lib.hid hRC
  have HL := Lib.hid (sha_length b)
  have heq := eq_key (sha b) (sha b) HL.out HL.out rfl
  have HLE := Lib.hid hlen
  have HC := Lib.hid hc
  have HFB : Hid (∀ a, A = some a → 0 < b.length → a.block < w.heap.size) := fun a ha hl => by
    subst ha
    obtain ⟨_, _, he, hcell⟩ := hR 0 hl
    cases he
    exact World.block_lt_of_cell? _ _ hcell
  clear hR hRC hc
  go_enter Try.func5, Try.ntmps5
  go_wp2_with fail
  refine (wakes_any w).mono ?_
  rintro e w1 ⟨rfl, hb⟩
  go_wp2_with fail
  refine (new_any w1).mono ?_
  rintro e w2 ⟨g, rfl, hg, hge, hn⟩
  have hb1 := hb.size
  replace hb := hb.trans (hn.mono hb.size)
  have hgw : w.heap.size ≤ g := by omega
  clear hn hge hb1
  go_wp2_with fail
  go_loopw [6, 7] (fun va vi wr => ∃ a i : Nat, va = .int .i64 a ∧ vi = .int .i64 i ∧ a ≤ b.length ∧ i ≤ cuts.length + 1 ∧ (i = cuts.length + 1 → a = b.length) ∧ HashR wr g (b.take a) ∧ Below w.heap.size w wr) (fun _ vi _ => cuts.length + 1 - (intOf vi).toNat)
  case atStart => exact ⟨0, 0, rfl, rfl, by omega, by omega, by omega, by rw [List.take_zero]; exact hg, hb⟩
  case round =>
    clear hg hb
    obtain ⟨a, i, rfl, rfl, ha, hi, hia, hg, hb⟩ := hrel
    by_cases hlt : a < b.length
    · have i1 : (a : Int) < (b.length : Int) := by omega
      obtain ⟨R, hRR⟩ : ∃ R, R = b.length - a := ⟨_, rfl⟩
      have hsub : (b.length : Int) - (a : Int) = (R : Int) := by omega
      have hstep : ∀ n, n ≤ R → HashR wr g (b.take a) → Calls Try.prog 11 #[.pointer (some ⟨g, 0, none⟩), .slice (cutA A a cap 1) n (cap - a)] wr fun e w' => e = .returned (.int .i64 0) ∧ HashR w' g (b.take (a + n)) ∧ Upd g wr w' := fun n hn hg => by
        have hr := rd_cut (HR.out.below (hb)) a n cap HC.out
        have hl : ((b.drop a).take n).length = n := by rw [List.length_take, List.length_drop]; omega
        have h := mwrite_any g (b.take a) ((b.drop a).take n) (cutA A a cap 1) (cap - a) wr hg hr (by rw [hl]; have := HC.out; omega) (fun a' ha' hl' => by
          obtain ⟨a2, h1, h2⟩ := cutA_block ha'
          have := HFB.out a2 h1 (by omega)
          omega) (by rw [hl]; omega) (by rw [hl, List.length_take]; omega)
        rw [hl] at h
        refine h.mono fun e w' ⟨h1, h2, h3⟩ => ⟨h1, ?_, h3⟩
        rw [List.take_add]
        exact h2
      have hmid := fun n (hn : n ≤ R) wx => run_slice_mid (P := Try.prog) bytesT A b.length cap a n (by have := HC.out; omega) wx
      have HST := Lib.hid hstep
      have HMID := Lib.hid hmid
      have HRR := Lib.hid hRR
      clear hstep hmid hRR
      by_cases hic : i < cuts.length
      · have j1 : (i : Int) < (cuts.length : Int) := by omega
        have HCC := Lib.hid (HRC.out.below hb)
        obtain ⟨gc, oc, rfl, cc⟩ := HCC.out i hic
        have hcv : IntKind.i64.wrap (wb (cuts.getD i 0)) = ((cuts.getD i 0).toNat : Int) := by
          have := (cuts.getD i 0).isLt
          rw [IntWalk.i64_in _ (by unfold wb; omega)]
          rfl
        generalize cuts.getD i 0 = x at *
        obtain ⟨n, hn⟩ : ∃ n, n = min R x.toNat := ⟨_, rfl⟩
        have hmin : imin (R : Int) (x.toNat : Int) = (n : Int) := by rw [hn]; exact imin_nat _ _
        have hnR : n ≤ R := by omega
        have HN := Lib.hid hn
        have hRl := HRR.out
        have hal : a + n ≤ b.length := by omega
        have HAL := Lib.hid hal
        clear hn hRl hal
        have hm := HMID.out n hnR
        have hadd : IntKind.i64.wrap ((a : Int) + (n : Int)) = (a : Int) + (n : Int) := IntWalk.i64_in _ (by have := HAL.out; omega)
        have hi2 : ¬ (cuts.length : Int) + 1 < (i : Int) := by omega
        go_wp2_with fail
        refine (HST.out n hnR hg).mono ?_
        rintro e w3 ⟨rfl, hg3, hu⟩
        go_wp2_with fail
        go_roundw
        case rel => exact ⟨a + n, i + 1, by simp, by simp, HAL.out, by omega, fun h => by omega, hg3, Upd.below hb hu hgw hb.size⟩
        case measure => simp [intOf]; omega
      · have j1 : ¬ (i : Int) < (cuts.length : Int) := by omega
        have hm := HMID.out R (Nat.le_refl _)
        have hadd : IntKind.i64.wrap ((a : Int) + (R : Int)) = (a : Int) + (R : Int) := IntWalk.i64_in _ (by have := HRR.out; omega)
        have hi2 : ¬ (cuts.length : Int) + 1 < (i : Int) := by omega
        go_wp2_with fail
        refine (HST.out R (Nat.le_refl _) hg).mono ?_
        rintro e w3 ⟨rfl, hg3, hu⟩
        go_wp2_with fail
        go_roundw
        case rel => exact ⟨a + R, i + 1, by simp, by simp, by have := HRR.out; omega, by omega, fun h => by have := HRR.out; omega, hg3, Upd.below hb hu hgw hb.size⟩
        case measure => simp [intOf]; omega
    · obtain rfl : a = b.length := by omega
      rw [List.take_length] at hg
      have i1 : ¬ (b.length : Int) < (b.length : Int) := by omega
      go_wp2_with fail
      refine (sum_any g b wr hg (by have := HLE.out; omega)).mono ?_
      rintro e w3 ⟨rfl, hn⟩
      replace hg := hg.below hn
      replace hb := hb.trans (hn.mono hb.size)
      clear hn
      go_wp2_with fail
      refine (shasum_v (HA.out.below hb) (by have := HLE.out; omega)).mono ?_
      rintro e w4 ⟨rfl, hn⟩
      replace hg := hg.below hn
      replace hb := hb.trans (hn.mono hb.size)
      clear hn
      go_wp2_with fail
      refine (len_any g b w4 hg).mono ?_
      rintro e w' ⟨rfl, rfl⟩
      go_wp2_with fail
      go_ret
      exact ⟨by simp, hb⟩
end Go.Proofs.Ytpledkahbifnfaa
