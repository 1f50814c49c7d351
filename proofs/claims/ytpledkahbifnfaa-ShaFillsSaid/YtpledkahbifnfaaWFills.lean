/- Bytes and what fills them up are whole blocks. -/
import Derived.Test.YtpledkahbifnfaaRefV
import Derived.Test.YtpledkahbifnfaaOpenI
namespace Go.Proofs.Ytpledkahbifnfaa
open Go.RowKit
set_option linter.unusedVariables false
set_option linter.unusedSimpArgs false
attribute [local go_sem] max_imax
set_option maxRecDepth 100000 in
set_option maxHeartbeats 4000000 in
theorem fills_walk (n : Int) (b : List (BitVec 8)) (A : Option Addr) (cap : Nat) (w : World) (hn0 : -9223372036854775808 ≤ n) (hn1 : n ≤ 9223372036854775807) (hR : Rd w .u8 A b) (hc : b.length ≤ cap) (hlen : b.length ≤ 140737488351232) :
    Calls Try.prog 6 #[.int .i64 n, .slice A b.length cap] w fun e w' => e = .returned (.bool true) ∧ Below w.heap.size w w' := by
  have HLE := Lib.hid hlen
  obtain ⟨q, hq⟩ : ∃ q : Nat, (q : Int) = if n < 0 then -n - 1 else n := ⟨(if n < 0 then -n - 1 else n).toNat, by split <;> omega⟩
  obtain ⟨m, hm⟩ : ∃ m : Nat, m = q % 1073741824 := ⟨_, rfl⟩
  have hrem : (q : Int) % 1073741824 = (m : Int) := by omega
  have hpl := shaPad_length m
  have hpw := shaPad_whole m
  have hplb := shaPad_length b.length
  have hpwb := shaPad_whole b.length
  have HP := Lib.hid (fun w' => pad_any m (by omega) w')
  have HPB := Lib.hid (fun w' => pad_any b.length (by omega) w')
  have HP0 : Hid ((shaPad m).getD 0 0 = 128) := rfl
  have hqb : (q : Int) ≤ 9223372036854775807 := by rw [hq]; split <;> omega
  obtain ⟨L, hL⟩ : ∃ L, L = (shaPad m).length := ⟨_, rfl⟩
  obtain ⟨LB, hLB⟩ : ∃ L, L = (shaPad b.length).length := ⟨_, rfl⟩
  have hL1 : (9 : Int) ≤ (L : Int) := by omega
  have hL2 : (L : Int) ≤ 72 := by omega
  have hL3 : ((m : Int) + (L : Int)) % 64 = 0 := by omega
  have hL4 : IntKind.i64.wrap ((m : Int) + (L : Int)) = (m : Int) + (L : Int) := IntWalk.i64_in _ (by omega)
  have hLB1 : ((b.length : Int) + (LB : Int)) % 64 = 0 := by omega
  have hLB2 : (LB : Int) ≤ 72 := by omega
  have HL := Lib.hid hL
  have HLB := Lib.hid hLB
  clear hpl hpw hplb hpwb hL hLB hR hc hm
  by_cases hneg : n < 0
  · rw [if_pos hneg] at hq
    have hx : wrap64 (wrap64 (-n) - 1) = -n - 1 := by unfold wrap64; omega
    have hmax : imax n (-n - 1) = (q : Int) := by unfold imax; rw [if_pos (by omega), hq]
    have HN := Lib.hid (fun w' => pad_neg n hneg w')
    have HQ := Lib.hid hq
    clear hq
    go_enter Try.func6, Try.ntmps6
    go_wp2_with fail
    refine (wakes_any w).mono ?_
    rintro e w1 ⟨rfl, hb⟩
    go_wp2_with fail
    refine (HP.out w1).mono ?_
    rintro e w2 ⟨v2, rfl, h2, hn⟩
    replace h2 : OwnB w2 _ v2 (shaPad m) := h2
    replace hb := hb.trans (hn.mono hb.size)
    clear hn
    obtain ⟨g2, c2, rfl, _, _⟩ := World.ownsRow.form h2 (by rw [← HL.out]; omega)
    have c00 := rd_at h2.rd 0 (by rw [← HL.out]; omega)
    rw [HP0.out, Nat.zero_add] at c00
    have c0 : w2.cell? ⟨g2, 0, none⟩ = some (.int .u8 128) := c00
    clear c00
    clear h2
    rw [← HL.out]
    have hL0 : (0 : Int) < (L : Int) := by omega
    go_wp2_with fail
    refine (HN.out w2).mono ?_
    rintro e w' ⟨rfl, rfl⟩
    go_wp2_with fail
    refine (HPB.out w2).mono ?_
    rintro e w3 ⟨v3, rfl, h3, hn⟩
    replace h3 : OwnB w3 _ v3 (shaPad b.length) := h3
    obtain ⟨A3, c3, rfl, _, _⟩ := h3.arg
    rw [← HLB.out]
    go_wp2_with fail
    go_ret
    exact ⟨rfl, hb.trans (hn.mono hb.size)⟩
  · rw [if_neg hneg] at hq
    subst hq
    have hx : IntKind.i64.wrap (-(q : Int)) = -(q : Int) := IntWalk.i64_in _ (by omega)
    have hx2 : IntKind.i64.wrap (-(q : Int) - 1) = -(q : Int) - 1 := IntWalk.i64_in _ (by omega)
    have hmax : imax (q : Int) (-(q : Int) - 1) = (q : Int) := by unfold imax; rw [if_neg (by omega)]
    go_enter Try.func6, Try.ntmps6
    go_wp2_with fail
    refine (wakes_any w).mono ?_
    rintro e w1 ⟨rfl, hb⟩
    go_wp2_with fail
    refine (HP.out w1).mono ?_
    rintro e w2 ⟨v2, rfl, h2, hn⟩
    replace h2 : OwnB w2 _ v2 (shaPad m) := h2
    replace hb := hb.trans (hn.mono hb.size)
    clear hn
    obtain ⟨g2, c2, rfl, _, _⟩ := World.ownsRow.form h2 (by rw [← HL.out]; omega)
    have c00 := rd_at h2.rd 0 (by rw [← HL.out]; omega)
    rw [HP0.out, Nat.zero_add] at c00
    have c0 : w2.cell? ⟨g2, 0, none⟩ = some (.int .u8 128) := c00
    clear c00
    clear h2
    rw [← HL.out]
    have hL0 : (0 : Int) < (L : Int) := by omega
    go_wp2_with fail
    refine (HPB.out w2).mono ?_
    rintro e w3 ⟨v3, rfl, h3, hn⟩
    replace h3 : OwnB w3 _ v3 (shaPad b.length) := h3
    obtain ⟨A3, c3, rfl, _, _⟩ := h3.arg
    rw [← HLB.out]
    go_wp2_with fail
    go_ret
    exact ⟨rfl, hb.trans (hn.mono hb.size)⟩
end Go.Proofs.Ytpledkahbifnfaa
