/- A copy of a hash and the hash go their own ways. -/
import Derived.Test.YtpledkahbifnfaaRefV
namespace Go.Proofs.Ytpledkahbifnfaa
open Go.RowKit
set_option linter.unusedVariables false
set_option linter.unusedSimpArgs false
theorem HashR.belowC {w w' : World} {g gk B : Nat} {m : List (BitVec 8)} (h : HashR w g gk m) (hb : Below B w w') (hg : g < B) (hk : gk < B) : HashR w' g gk m := by
  obtain ⟨ok, kc, rest, hB, hK, r⟩ := h.ex
  refine ⟨⟨ok, kc, rest, hB.below hb hg, fun i hi => ?_, r⟩, h.le⟩
  obtain ⟨g', off, he, hc⟩ := hK i hi
  cases he
  exact ⟨_, _, rfl, (World.cell?_of_block (hb.block gk hk)).trans hc⟩
theorem len_two {w : World} {g gk : Nat} {a b : List (BitVec 8)} (h : HashR w g gk (a ++ b)) :
    Calls Try.prog 13 #[.pointer (some ⟨g, 0, none⟩)] w fun e w' => e = .returned (.int .i64 ((a.length : Int) + (b.length : Int))) ∧ w = w' :=
  (len_any g gk (a ++ b) w h).mono fun e w' ⟨h1, h2⟩ => ⟨by rw [h1, List.length_append, Int.natCast_add], h2⟩
theorem wpList_app_g {P : Program} {ops : Array Oper} {rest : List Oper} {o : Oper} {a : Act} {Q : Exit → Act → World → Prop} {w : World} (hw : Region.wanted o (yielded ops a.tmps) = true) (s x : Operand) (ho : o.op = .call { callee := .builtin .append, args := #[s, x], argTypes := #[22, 22] })
    (base : Nat) (v : Value) (l : List (BitVec 8)) (hs : a.eval s = v) (hown : OwnB w base v l) (u : Value) (m : List (BitVec 8)) (hx : a.eval x = u) (ha : Arg w u m)
    (hbytes : l.length + m.length ≤ 140737488355328) (hbase : base ≤ w.heap.size)
    (h : ∀ v' w', OwnB w' base v' (l ++ m) → Below base w w' → wpList Try.prog ops Q rest (a.put o.dst v') w') : wpList Try.prog ops Q (o :: rest) a w := by
  obtain ⟨A, c, rfl, hc, hr⟩ := ha
  refine wpList_append_row_g hw s x bytesT ho base v _ _ hs hown A m.length c (encL .u8 m) hx (by rw [encL_length, Nat.mul_one]) hr.cells (encL_one _ _) (by omega) hbase ?_
  intro v' w' h2 hgr _
  refine h v' w' ?_ (below_grown (Below.refl _ _) hbase hgr (fun q hq => (hown.lt q hq).1))
  unfold OwnB
  rw [List.length_append, encL_append]
  exact h2
theorem mwrite_v {w : World} {g gk B : Nat} {m b : List (BitVec 8)} {A : Option Addr} {cap : Nat} (h : HashR w g gk m) (ha : Arg w (.slice A b.length cap) b) (hf : ∀ a, A = some a → 0 < b.length → a.block < B) (hB : B ≤ g) (hcap : b.length ≤ 1048576) (hlen : m.length ≤ 1048576) :
    Calls Try.prog 11 #[.pointer (some ⟨g, 0, none⟩), .slice A b.length cap] w fun e w' => e = .returned (.int .i64 0) ∧ HashR w' g gk (m ++ b) ∧ Upd g w w' := by
  obtain ⟨A', c', he, hc, hR⟩ := ha
  simp only [Value.slice.injEq] at he
  obtain ⟨rfl, _, rfl⟩ := he
  exact mwrite_any g gk m b A cap w h hR hc (fun a h1 h2 => by have := hf a h1 h2; omega) (by omega) (by omega)
theorem arg_lt {w : World} {A : Option Addr} {n cap : Nat} {b : List (BitVec 8)} (h : Arg w (.slice A n cap) b) : ∀ a, A = some a → 0 < b.length → a.block < w.heap.size := by
  obtain ⟨A', c', he, hc, hR⟩ := h
  simp only [Value.slice.injEq] at he
  obtain ⟨rfl, _, rfl⟩ := he
  intro a ha hl
  subst ha
  obtain ⟨_, _, he, hcell⟩ := hR 0 hl
  cases he
  exact World.block_lt_of_cell? _ _ hcell
set_option maxRecDepth 100000 in
set_option maxHeartbeats 8000000 in
theorem copies_walk (a b c : List (BitVec 8)) (A0 A1 A2 : Option Addr) (c0 c1 c2 : Nat) (w : World) (ha : Arg w (.slice A0 a.length c0) a) (hb : Arg w (.slice A1 b.length c1) b) (hc : Arg w (.slice A2 c.length c2) c) (hl : a.length + b.length + c.length ≤ 1048576) :
    Calls Try.prog 4 #[.slice A0 a.length c0, .slice A1 b.length c1, .slice A2 c.length c2] w fun e w' => e = .returned (.bool true) ∧ Below w.heap.size w w' := by
  have HA := Lib.hid ha
  have HB := Lib.hid hb
  have HC := Lib.hid hc
  have HLE := Lib.hid hl
  have HFA := Lib.hid (arg_lt ha)
  have HFB := Lib.hid (arg_lt hb)
  have HFC := Lib.hid (arg_lt hc)
  clear ha hb hc
  have hadd1 : IntKind.i64.wrap ((a.length : Int) + (b.length : Int)) = (a.length : Int) + (b.length : Int) := IntWalk.i64_in _ (by omega)
  have hadd2 : IntKind.i64.wrap ((a.length : Int) + (c.length : Int)) = (a.length : Int) + (c.length : Int) := IntWalk.i64_in _ (by omega)
  have heq1 := eq_key (sha (a ++ b)) (sha (a ++ b)) (sha_length _) (sha_length _) rfl
  have heq2 := eq_key (sha (a ++ c)) (sha (a ++ c)) (sha_length _) (sha_length _) rfl
  have HAB : Hid ((a ++ b).length ≤ 1048576) := by show _ ≤ _; rw [List.length_append]; omega
  have HAC : Hid ((a ++ c).length ≤ 1048576) := by show _ ≤ _; rw [List.length_append]; omega
  clear hl
  go_enter Try.func4, Try.ntmps4
  go_wp2_with fail
  refine (wakes_any w).mono ?_
  rintro e w1 ⟨rfl, hb⟩
  go_wp2_with fail
  refine (new_any w1).mono ?_
  rintro e w2 ⟨g, gk, rfl, hg, hge, hgek, hn⟩
  have hb1 := hb.size
  replace hb := hb.trans (hn.mono hb.size)
  have hgw : w.heap.size ≤ g := by omega
  clear hn hge hgek hb1
  go_wp2_with fail
  refine (mwrite_v hg (HA.out.below hb) HFA.out hgw (by have := HLE.out; omega) (by simp)).mono ?_
  rintro e w3 ⟨rfl, h3, hu⟩
  rw [List.nil_append] at h3
  replace hb := Upd.below hb hu hgw hb.size
  clear hu hg
  go_wp2_with fail
  refine (copy_any g gk a w3 h3).mono ?_
  rintro e w4 ⟨g2, rfl, h4, hge2, hn⟩
  have hlt := h3.lt
  have hklt := h3.klt
  have hne := h3.ne
  have h3' := h3.below hn
  have hg2w : w.heap.size ≤ g2 := Nat.le_trans hb.size hge2
  replace hb := hb.trans (hn.mono hb.size)
  have n1 : g ≠ g2 := by omega
  have n2 : gk ≠ g2 := by omega
  clear hn h3 hge2 hlt hklt
  go_wp2_with fail
  refine (mwrite_v h3' (HB.out.below hb) HFB.out hgw (by have := HLE.out; omega) (by have := HLE.out; omega)).mono ?_
  rintro e w5 ⟨rfl, h5, hu⟩
  have h5' := h4.upd hu (Ne.symm n1) hne
  replace hb := Upd.below hb hu hgw hb.size
  clear hu h4 h3'
  go_wp2_with fail
  refine (mwrite_v h5' (HC.out.below hb) HFC.out hg2w (by have := HLE.out; omega) (by have := HLE.out; omega)).mono ?_
  rintro e w6 ⟨rfl, h6', hu⟩
  have h6 := h5.upd hu n1 n2
  replace hb := Upd.below hb hu hg2w hb.size
  clear hu h5 h5' n1 n2 hne
  go_wp2_with fail
  refine (sum_any g gk (a ++ b) w6 h6 (by have := HAB.out; omega)).mono ?_
  rintro e w7 ⟨rfl, hn⟩
  replace h6 := h6.below hn
  replace h6' := h6'.below hn
  replace hb := hb.trans (hn.mono hb.size)
  clear hn
  have ow0 : OwnB (w7.alloc (.cells #[] 5)) w7.heap.size (.slice (some ⟨w7.heap.size, 0, none⟩) 0 0) [] := OwnB.empty (Nat.le_refl _)
  have al0 : Below w7.heap.size w7 (w7.alloc (.cells #[] 5)) := (Below.refl _ _).alloc (Nat.le_refl _) _
  go_wp2_with (first | (at_builtin; refine wpList_app rfl _ _ rfl w7.heap.size _ [] rfl ow0 _ a rfl ((HA.out.below hb).below al0) (by have := HLE.out; simp; omega) (by simp) ?_; intro v8 w8 h8 hn8; rw [List.nil_append] at h8; clear ow0; replace hn8 := al0.trans hn8; clear al0; have s8 := hn8.size) | (at_builtin; refine wpList_app rfl _ _ rfl w7.heap.size _ a rfl h8 _ b rfl ((HB.out.below hb).below hn8) (by have := HLE.out; omega) s8 ?_; intro v9 w9 h9 hn9) | fail)
  replace hn8 := hn8.trans hn9
  replace h6 := h6.below hn8
  replace h6' := h6'.below hn8
  replace hb := hb.trans (hn8.mono hb.size)
  clear hn8 hn9 s8 h8
  go_wp2_with fail
  refine (rsum_v h9.arg (by have := HAB.out; omega)).mono ?_
  rintro e w10 ⟨rfl, hn⟩
  replace h6 := h6.below hn
  replace h6' := h6'.below hn
  replace hb := hb.trans (hn.mono hb.size)
  clear hn h9
  go_wp2_with fail
  refine (sum_any g2 gk (a ++ c) w10 h6' (by have := HAC.out; omega)).mono ?_
  rintro e w11 ⟨rfl, hn⟩
  replace h6 := h6.below hn
  replace h6' := h6'.below hn
  replace hb := hb.trans (hn.mono hb.size)
  clear hn
  have ow0 : OwnB (w11.alloc (.cells #[] 5)) w11.heap.size (.slice (some ⟨w11.heap.size, 0, none⟩) 0 0) [] := OwnB.empty (Nat.le_refl _)
  have al0 : Below w11.heap.size w11 (w11.alloc (.cells #[] 5)) := (Below.refl _ _).alloc (Nat.le_refl _) _
  go_wp2_with (first | (refine wpList_app_g (P := Try.prog) rfl _ _ rfl w11.heap.size _ [] rfl ow0 _ a rfl ((HA.out.below hb).below al0) (by have := HLE.out; simp; omega) (by simp) ?_; intro v12 w12 h12 hn12; rw [List.nil_append] at h12; clear ow0; replace hn12 := al0.trans hn12; clear al0; have s12 := hn12.size) | (refine wpList_app_g (P := Try.prog) rfl _ _ rfl w11.heap.size _ a rfl h12 _ c rfl ((HC.out.below hb).below hn12) (by have := HLE.out; omega) s12 ?_; intro v13 w13 h13 hn13) | fail)
  replace hn12 := hn12.trans hn13
  replace h6 := h6.below hn12
  replace h6' := h6'.below hn12
  replace hb := hb.trans (hn12.mono hb.size)
  clear hn12 hn13 s12 h12
  go_wp2_with fail
  refine (rsum_v h13.arg (by have := HAC.out; omega)).mono ?_
  rintro e w14 ⟨rfl, hn⟩
  replace h6 := h6.below hn
  replace h6' := h6'.below hn
  replace hb := hb.trans (hn.mono hb.size)
  clear hn h13
  go_wp2_with fail
  refine (len_two h6).mono ?_
  rintro e w15 ⟨rfl, rfl⟩
  go_wp2_with fail
  refine (len_two h6').mono ?_
  rintro e w16 ⟨rfl, rfl⟩
  go_wp2_with fail
  go_ret
  exact ⟨by simp, hb⟩
end Go.Proofs.Ytpledkahbifnfaa
