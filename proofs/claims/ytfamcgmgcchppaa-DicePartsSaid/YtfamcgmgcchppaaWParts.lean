/- Two takings are one taking of both. -/
import Derived.Test.YtfamcgmgcchppaaDiOne
import Derived.Test.YtfamcgmgcchppaaWNone
import Derived.Test.YtfamcgmgcchppaaOctGet
namespace Go.Proofs.Ytfamcgmgcchppaa
open Go.RowKit
set_option linter.unusedVariables false
set_option linter.unusedSimpArgs false
theorem wpList_app_g {P : Program} {ops : Array Oper} {rest : List Oper} {o : Oper} {a : Act} {Q : Exit → Act → World → Prop} {w : World} (hw : Region.wanted o (yielded ops a.tmps) = true) (s x : Operand) (ho : o.op = .call { callee := .builtin .append, args := #[s, x], argTypes := #[22, 22] })
    (base : Nat) (v : Value) (l : List (BitVec 8)) (hs : a.eval s = v) (hown : OwnB w base v l) (u : Value) (m : List (BitVec 8)) (hx : a.eval x = u) (ha : Arg w u m)
    (hbytes : l.length + m.length ≤ 140737488355328) (hbase : base ≤ w.heap.size)
    (h : ∀ v' w', OwnB w' base v' (l ++ m) → Below base w w' → wpList Try.prog ops Q rest (a.put o.dst v') w') : wpList Try.prog ops Q (o :: rest) a w := by
  obtain ⟨A, c, rfl, hc, hr⟩ := ha
  refine wpList_append_row_g hw s x bytesT ho base v _ _ hs hown A m.length c (encL .u8 m) hx (by rw [encL_length, Nat.mul_one]) hr.cells (encL_one _ _) (by omega) hbase ?_
  intro v' w' h2 hgr _
  refine h v' w' ?_ (below_grown (Below.refl _ _) hbase hgr (fun q hq => (hown.lt q hq).1))
  unfold OwnB
  rw [List.length_append, encL_append]
  exact h2
theorem OwnB.keepLow {w4 w6 w7 : World} {base : Nat} {v : Value} {l l' : List (BitVec 8)} (h4 : OwnB w4 base v l') (h6 : OwnB w6 base v l) (hb : Below w4.heap.size w6 w7) : OwnB w7 base v l := by
  refine ⟨h6.1, ?_⟩
  rcases h6.2 with h2 | ⟨g', cap, cur, hv, hg', hlt, r⟩
  · exact .inl h2
  · refine .inr ⟨g', cap, cur, hv, hg', (hb.block g' ?_).trans hlt, r⟩
    rcases h4.2 with h2' | ⟨g'', cap', cur', hv', hg'', hlt', r'⟩
    · rw [hv] at h2'; simp at h2'
    · rw [hv] at hv'
      simp only [Value.slice.injEq, Option.some.injEq, Addr.mk.injEq, and_true] at hv'
      rw [hv'.1]
      exact (Array.getElem?_eq_some_iff.1 hlt').1
attribute [local go_sem] max_imax
set_option maxRecDepth 100000 in
set_option maxHeartbeats 4000000 in
theorem parts_walk (b : List (BitVec 8)) (x y : Int) (A : Option Addr) (cap : Nat) (w : World) (hR : Rd w .u8 A b) (hc : b.length ≤ cap) (hx0 : -9223372036854775808 ≤ x) (hx1 : x ≤ 9223372036854775807) (hy0 : -9223372036854775808 ≤ y) (hy1 : y ≤ 9223372036854775807) :
    Calls Try.prog 4 #[.slice A b.length cap, .int .i64 x, .int .i64 y] w fun e w' => e = .returned (.bool true) ∧ Below w.heap.size w w' := by
  have HR := Lib.hid hR
  have HC := Lib.hid hc
  clear hR hc
  by_cases i1 : (4096 : Int) < (b.length : Int)
  · go_enter Try.func4, Try.ntmps4
    go_wp2_with fail
    refine (wakes_any w).mono ?_
    rintro e w1 ⟨rfl, hb⟩
    go_wp2_with fail
    go_ret
    exact ⟨rfl, hb⟩
  have HLE : Hid (b.length ≤ 281474976710656) := by show _ ≤ _; omega
  obtain ⟨q, hq⟩ : ∃ q : Nat, imax x 0 = (q : Int) := ⟨(imax x 0).toNat, by unfold imax; split <;> omega⟩
  have hqb : (q : Int) ≤ 9223372036854775807 := by rw [← hq]; unfold imax; split <;> omega
  obtain ⟨r, hr⟩ : ∃ r : Nat, imax y 0 = (r : Int) := ⟨(imax y 0).toNat, by unfold imax; split <;> omega⟩
  have hrb : (r : Int) ≤ 9223372036854775807 := by rw [← hr]; unfold imax; split <;> omega
  obtain ⟨K, hK⟩ : ∃ K, K = q % 1000 := ⟨_, rfl⟩
  obtain ⟨M, hM⟩ : ∃ M, M = r % (K + 1) := ⟨_, rfl⟩
  have hmd : (q : Int).tmod 1000 = (K : Int) := by rw [Int.tmod_eq_emod_of_nonneg (Int.natCast_nonneg _)]; omega
  have hmd2 : (r : Int).tmod ((K : Int) + 1) = (M : Int) := by rw [Int.tmod_eq_emod_of_nonneg (Int.natCast_nonneg _), hM]; simp
  have hMK : M ≤ K := by rw [hM]; exact Nat.le_of_lt_succ (Nat.mod_lt _ (Nat.succ_pos _))
  have hKb : K < 1000 := by rw [hK]; exact Nat.mod_lt _ (by omega)
  obtain ⟨D, hD⟩ : ∃ D, D = K - M := ⟨_, rfl⟩
  have hKM : (K : Int) - (M : Int) = (D : Int) := by omega
  have HD : Hid (K = M + D) := by show _ = _; omega
  clear hK hM hD
  go_enter Try.func4, Try.ntmps4
  go_wp2_with fail
  refine (wakes_any w).mono ?_
  rintro e w1 ⟨rfl, hb⟩
  go_wp2_with fail
  refine (dnew_any b A cap w1 (HR.out.below hb) HC.out HLE.out).mono ?_
  rintro e w2 ⟨g1, rfl, hg1, hd1, hn⟩
  replace hg1 := Nat.le_trans hb.size hg1
  replace hb := hb.trans (hn.mono hb.size)
  clear hn
  go_wp2_with fail
  refine (dnew_any b A cap w2 (HR.out.below hb) HC.out HLE.out).mono ?_
  rintro e w3 ⟨g2, rfl, hg2, hd2, hn⟩
  have hl1 := hd1.lt
  have hne : g1 ≠ g2 := by omega
  have hl2 := hd2.lt
  replace hd1 := hd1.below hn
  replace hg2 := Nat.le_trans hb.size hg2
  replace hb := hb.trans (hn.mono hb.size)
  clear hn hl1
  go_wp2_with fail
  refine (dbytes_any g1 (sha b) 0 K w3 hd1 (by omega) (by omega)).mono ?_
  rintro e w4 ⟨v1, rfl, ho1, hd1, hu⟩
  have hl1 := hd1.lt
  replace hd2 := hd2.upd hu (Ne.symm hne)
  have hs34 := hu.size
  replace hb := Upd.below hb hu hg1 hb.size
  have hl2 : g2 < w3.heap.size := by assumption
  go_wp2_with fail
  refine (dbytes_any g2 (sha b) 0 M w4 hd2 (by omega) (by omega)).mono ?_
  rintro e w5 ⟨v2, rfl, ho2, hd2, hu2⟩
  have ho15 := ho1.upd hu2 hl2
  replace hd1 := hd1.upd hu2 hne
  replace hb := Upd.below hb hu2 hg2 hb.size
  have hs45 := hu2.size
  go_wp2_with fail
  refine (dbytes_any g2 (sha b) (0 + M) D w5 hd2 (by omega) (by omega)).mono ?_
  rintro e w6 ⟨v3, rfl, ho3, hd2, hu3⟩
  replace ho15 := ho15.upd hu3 hl2
  have ho26 := ho2.upd hu3 (by omega : g2 < w4.heap.size)
  replace hd1 := hd1.upd hu3 hne
  replace hb := Upd.below hb hu3 hg2 hb.size
  have hs56 := hu3.size
  have hl16 := hd1.lt
  have a3 := ho3.arg
  clear hu hu2 hu3 ho2 ho3
  have HS4 : Hid (w4.heap.size ≤ w6.heap.size) := by show _ ≤ _; omega
  have HLB : Hid ((strm (sha b) 0 M).length + (strm (sha b) (0 + M) D).length ≤ 140737488355328) := by show _ ≤ _; rw [strm_length, strm_length]; omega
  have HEQ : Hid ((strm (sha b) 0 K == strm (sha b) 0 M ++ strm (sha b) (0 + M) D) = true) := by show _ = _; rw [HD.out, strm_add]; simp
  have HLK : Hid ((strm (sha b) 0 K).length ≤ 140737488355328) := by show _ ≤ _; rw [strm_length]; omega
  have HO26 := Lib.hid ho26
  have HO1 := Lib.hid ho1
  have HO15 := Lib.hid ho15
  have HD1 := Lib.hid hd1
  have HD2 := Lib.hid hd2
  have HB := Lib.hid hb
  have HHB := Lib.hid hb.size
  have HG1 : Hid (g1 < w4.heap.size) := by show _ < _; omega
  have HG2 : Hid (g2 < w4.heap.size) := by show _ < _; omega
  have HW4 : Hid (w.heap.size ≤ w4.heap.size) := by show _ ≤ _; omega
  clear ho26 ho1 ho15 hd1 hd2 hb
  go_wp2_with (first | (refine wpList_app_g (P := Try.prog) rfl _ _ rfl w4.heap.size _ _ rfl HO26.out _ _ rfl a3 HLB.out HS4.out ?_; intro v' w7 ho7 hb7) | fail)
  obtain ⟨A1, c1, rfl, hc1, hr1⟩ := (HO1.out.keepLow HO15.out hb7).arg
  obtain ⟨A2, c2, rfl, hc2, hr2⟩ := ho7.arg
  refine (equal_any _ _ A1 A2 c1 c2 w7 hr1 hr2 HLK.out).mono ?_
  rintro e w8 ⟨rfl, k, rfl⟩
  rw [HEQ.out]
  replace hb7 := below_drewN hb7 k
  have hd17 : DiceR (w7.drewN k) g1 (sha b) (0 + K) := ⟨HD1.out.1, HD1.out.2.below hb7 HG1.out⟩
  have hd27 : DiceR (w7.drewN k) g2 (sha b) (0 + M + D) := ⟨HD2.out.1, HD2.out.2.below hb7 HG2.out⟩
  rw [Nat.zero_add] at hd17
  rw [Nat.zero_add, ← HD.out] at hd27
  have hb8 : Below w.heap.size w (w7.drewN k) := HB.out.trans (hb7.mono HW4.out)
  clear hr1 hr2 ho7 hb7 a3 hne
  generalize w7.drewN k = w8 at *
  go_wp2_with fail
  refine (dtaken_any g1 _ K w8 hd17).mono ?_
  rintro e w9 ⟨rfl, rfl⟩
  go_wp2_with fail
  refine (dtaken_any g2 _ K w9 hd27).mono ?_
  rintro e w10 ⟨rfl, rfl⟩
  go_wp2_with fail
  go_ret
  exact ⟨rfl, hb8⟩
end Go.Proofs.Ytfamcgmgcchppaa
