/- Bytes that are written piece by piece have the hash of all of them. -/
import Derived.Test.YtpledkahbifnfaaRefV
import Derived.Test.YtpledkahbifnfaaOpenRows
namespace Go.Proofs.Ytpledkahbifnfaa
open Go.RowKit
set_option linter.unusedVariables false
set_option linter.unusedSimpArgs false
theorem own_upd {w w' : World} {base g' : Nat} {v : Value} {l : List (BitVec 8)} (h : OwnB w base v l) (hu : Upd g' w w') (hne : ∀ q, v.ownBlock = some q → q ≠ g') : OwnB w' base v l := by
  refine ⟨h.1, ?_⟩
  rcases h.2 with h2 | ⟨g, cap, cur, hv, hg, hlt, r⟩
  · exact .inl h2
  · exact .inr ⟨g, cap, cur, hv, hg, (hu.block g (Array.getElem?_eq_some_iff.1 hlt).1 (hne g (by rw [hv]; rfl))).trans hlt, r⟩
theorem HashR.belowB {w w' : World} {g gk B : Nat} {m : List (BitVec 8)} (h : HashR w g gk m) (hb : Below B w w') (hg : g < B) (hk : gk < B) : HashR w' g gk m := by
  obtain ⟨ok, kc, rest, hB, hK, r⟩ := h.ex
  refine ⟨⟨ok, kc, rest, hB.below hb hg, fun i hi => ?_, r⟩, h.le⟩
  obtain ⟨g', off, he, hc⟩ := hK i hi
  cases he
  exact ⟨_, _, rfl, (World.cell?_of_block (hb.block gk hk)).trans hc⟩
theorem flat_succ (ls : List (List (BitVec 8))) (k : Nat) (h : k < ls.length) : (ls.take (k + 1)).flatten = (ls.take k).flatten ++ ls.getD k [] := by
  rw [List.take_succ_eq_append_getElem h, List.flatten_append]
  simp [List.getD, h]
theorem own_store {w : World} {base g n c : Nat} {q : List (BitVec 8)} (h : OwnB w base (.slice (some ⟨g, 0, none⟩) n c) q) (hn : q.length = n) (j : Nat) (hj : j < n) :
    w.cell? ⟨g, j, none⟩ = some (.int .u8 (wb (q.getD j 0))) ∧ w.frozen? ⟨g, j, none⟩ = false ∧ ∀ x : BitVec 8, OwnB (w.setCell ⟨g, j, none⟩ (.int .u8 (wb x))) base (.slice (some ⟨g, 0, none⟩) n c) (q.set j x) := by
  subst hn
  refine ⟨?_, World.ownsRow.frozenAt h j, fun x => ?_⟩
  · rw [World.ownsRow.cellAt h j (by omega), encL_get _ _ _ hj]
  · have := (World.ownsRow.stored h j (.int .u8 (wb x))).1
    rw [show (encL .u8 q).set j (.int .u8 (wb x)) = encL .u8 (q.set j x) by simp [encL, List.map_set]] at this
    unfold OwnB
    rw [List.length_set]
    exact this
set_option maxRecDepth 100000 in
set_option maxHeartbeats 8000000 in
theorem pieces_walk (ls : List (List (BitVec 8))) (vs : List Value) (A : Option Addr) (cap : Nat) (w : World) (hR : RdV w A vs) (hvl : vs.length = ls.length) (hc : ls.length ≤ cap) (hcap : cap * 24 ≤ 140737488351232) (hrow : ∀ i, i < ls.length → RowArg w (vs.getD i undef) (ls.getD i [])) :
    Calls Try.prog 8 #[.slice A ls.length cap] w fun e w' => e = .returned (.bool true) ∧ Below w.heap.size w w' := by
  have HR := Lib.hid hR
  have HROW := Lib.hid hrow
  have HVL := Lib.hid hvl
  clear hR hrow hvl
  go_enter Try.func8, Try.ntmps8
  go_wp2_with fail
  refine (wakes_any w).mono ?_
  rintro e w1 ⟨rfl, hb⟩
  go_wp2_with fail
  refine (new_any w1).mono ?_
  rintro e w2 ⟨g, gk, rfl, hg, hge, hgek, hn⟩
  have hb1 := hb.size
  replace hb := hb.trans (hn.mono hb.size)
  have hgw : w.heap.size ≤ g := by omega
  clear hn hge hgek hb1
  obtain ⟨B, hB⟩ : ∃ B, B = w2.heap.size := ⟨_, rfl⟩
  have hgB : g < B := by rw [hB]; exact hg.lt
  have hkB : gk < B := by rw [hB]; exact hg.klt
  have hwB : w.heap.size ≤ B := by omega
  have hBw2 : B ≤ w2.heap.size := by omega
  clear hB
  go_wp2_with fail
  go_loopw [15, 4] (fun vi vu wr => ∃ k : Nat, k ≤ ls.length ∧ vi = .int .i64 k ∧ (ls.take k).flatten.length ≤ 140737488416768 ∧ OwnB wr B vu (ls.take k).flatten ∧ HashR wr g gk (ls.take k).flatten ∧ B ≤ wr.heap.size ∧ Below w.heap.size w wr) (fun vi _ _ => ls.length - (intOf vi).toNat)
  case atStart => exact ⟨0, by omega, rfl, by simp, by rw [List.take_zero]; exact World.ownsRow_nil _ _ _ _, by rw [List.take_zero]; exact hg, hBw2, hb⟩
  case round =>
    clear hg hb hBw2
    obtain ⟨k, hk, rfl, hacc, hown, hg, hBs, hb⟩ := hrel
    have HFS := Lib.hid (flat_succ ls k)
    obtain ⟨acc, hac⟩ : ∃ acc, acc = (ls.take k).flatten := ⟨_, rfl⟩
    rw [← hac] at hacc hown hg HFS
    have HACC := Lib.hid hacc
    clear hac hacc
    obtain ⟨A0, c0, rfl, _, _⟩ := id hown.arg
    by_cases hlt : k < ls.length
    · have i1 : (k : Int) < (ls.length : Int) := by omega
      obtain ⟨gp, op, rfl, hcell⟩ := HR.out.below hb k (by rw [HVL.out]; exact hlt)
      have hrow := HROW.out k hlt
      have HFS1 := Lib.hid (HFS.out hlt)
      generalize vs.getD k undef = pv at *
      generalize ls.getD k [] = p at *
      obtain ⟨Ap, cp, rfl, hpc, hpl, hRp⟩ := hrow
      have HRP : Hid (Arg w (.slice Ap p.length cp) p) := ⟨Ap, cp, rfl, hpc, hRp⟩
      have HPL : Hid (p.length ≤ 140737488351232) := Nat.le_trans hpc hpl
      clear hRp hpl hpc
      by_cases h40 : k = 40
      · have j1 : ((k : Int) == 40) = true := by simp; omega
        clear h40
        go_wp2_with fail
        refine (rsum_v hown.arg (by have := HACC.out; omega)).mono ?_
        rintro e wa ⟨rfl, hn⟩
        replace hown := hown.below hn
        replace hg := hg.below hn
        replace hb := hb.trans (hn.mono hb.size)
        clear hn
        have hN := Blk.new wa (encs .u8 z32s) 28
        have hBK := hN.row (encs .u8 (sha acc))
        have hn : Below wa.heap.size wa ((wa.alloc (.cells (encs .u8 z32s) 28)).setRow wa.heap.size (encs .u8 (sha acc))) := below_setRow ((Below.refl _ _).alloc (Nat.le_refl _) _) (Nat.le_refl _) _
        replace hown := hown.below hn
        replace hg := hg.below hn
        replace hb := hb.trans (hn.mono hb.size)
        clear hn
        have HL := Lib.hid (sha_length acc)
        have heq := eq_key (sha acc) (sha acc) HL.out HL.out rfl
        go_wp2_with (first | (refine wpList_store_row rfl 28 _ _ rfl _ _ rfl rfl 28 _ hN (by rw [encs_size, HL.out]; exact sizeKey0) (by rw [encs_size, encs_size, HL.out]; rfl) (encs_one _ _) ?_; change wpList _ _ _ _ _ ((wa.alloc (.cells (encs .u8 z32s) 28)).setRow wa.heap.size (encs .u8 (sha acc))); generalize (wa.alloc (.cells (encs .u8 z32s) 28)).setRow wa.heap.size (encs .u8 (sha acc)) = w4 at *; generalize wa.heap.size = gw at *) | fail)
        clear hN
        have HBK := Lib.hid hBK
        have HG := Lib.hid hg
        have HB := Lib.hid hb
        clear hBK hg hb hown
        dsimp only [Act.put]
        refine mix_start (fun w' => Below w4.heap.size w4 w') [0, 2, 1, 3, 4, 5, 7, 6, 8, 9, 10, 11, 13, 14, 12, 15, 16, 17] [1, 6, 12] [2, 7] [] (by kernel_rfl) (by kernel_rfl) (fun d _ _ _ _ h => by cases d <;> exact h) (Below.refl _ _).drew ?_
        repeat (refine mix_pure rfl rfl (fun K hK => ?_); go_simp; refine hK _ ?_; clear hK K)
        refine mix_load_row rfl rfl rfl rfl 28 _ rfl gw rfl _ 28 (0, 0) _ (fun w' hS => HBK.out.below hS HBK.out.lt) Try.underlying28 rfl (by rw [encs_size, HL.out]; exact sizeKey0) ?_
        refine mix_eff rfl rfl (fun K hK => ?_)
        go_simp
        refine (sum_any g gk acc _ (HG.out.below (Below.refl _ _).drew) (by have := HACC.out; omega)).mono ?_
        rintro e w5 ⟨rfl, hn⟩
        have hn5 : Below w4.heap.size w4 w5 := (Below.refl _ _).drew.trans hn
        refine hK _ _ (fun _ _ => hn5) ?_
        clear hK K hn
        repeat (refine mix_pure rfl rfl (fun K hK => ?_); go_simp; refine hK _ ?_; clear hK K)
        refine mix_load_row rfl rfl rfl rfl 28 _ rfl gw rfl _ 28 (0, 0) _ (fun w' hS => HBK.out.below hS HBK.out.lt) Try.underlying28 rfl (by rw [encs_size, HL.out]; exact sizeKey0) ?_
        refine mix_eff rfl rfl (fun K hK => ?_)
        go_simp
        refine (sum_any g gk acc _ (HG.out.below hn5) (by have := HACC.out; omega)).mono ?_
        rintro e w6 ⟨rfl, hn⟩
        have hn6 := hn5.trans (hn.mono hn5.size)
        refine hK _ _ (fun _ _ => hn6) ?_
        clear hK K hn
        repeat (refine mix_pure rfl rfl (fun K hK => ?_); go_simp; refine hK _ ?_; clear hK K)
        refine mix_eff rfl rfl (fun K hK => ?_)
        go_simp
        refine (len_any g gk acc _ (HG.out.below hn6)).mono ?_
        rintro e w' ⟨rfl, rfl⟩
        refine hK _ _ (fun _ h => h) ?_
        clear hK K
        repeat (refine mix_pure rfl rfl (fun K hK => ?_); go_simp; refine hK _ ?_; clear hK K)
        refine mix_nil ?_
        go_wp2_with fail
        go_ret
        exact ⟨by simp, HB.out.trans (hn6.mono HB.out.size)⟩
      · have j1 : ((k : Int) == 40) = false := by simp; omega
        clear h40
        by_cases hbig : 65536 < acc.length
        · have j2 : (65536 : Int) < (acc.length : Int) := by omega
          go_wp2_with fail
          refine (rsum_v hown.arg (by have := HACC.out; omega)).mono ?_
          rintro e wa ⟨rfl, hn⟩
          replace hown := hown.below hn
          replace hg := hg.below hn
          replace hb := hb.trans (hn.mono hb.size)
          clear hn
          have hN := Blk.new wa (encs .u8 z32s) 28
          have hBK := hN.row (encs .u8 (sha acc))
          have hn : Below wa.heap.size wa ((wa.alloc (.cells (encs .u8 z32s) 28)).setRow wa.heap.size (encs .u8 (sha acc))) := below_setRow ((Below.refl _ _).alloc (Nat.le_refl _) _) (Nat.le_refl _) _
          replace hown := hown.below hn
          replace hg := hg.below hn
          replace hb := hb.trans (hn.mono hb.size)
          clear hn
          have HL := Lib.hid (sha_length acc)
          have heq := eq_key (sha acc) (sha acc) HL.out HL.out rfl
          go_wp2_with (first | (refine wpList_store_row rfl 28 _ _ rfl _ _ rfl rfl 28 _ hN (by rw [encs_size, HL.out]; exact sizeKey0) (by rw [encs_size, encs_size, HL.out]; rfl) (encs_one _ _) ?_; change wpList _ _ _ _ _ ((wa.alloc (.cells (encs .u8 z32s) 28)).setRow wa.heap.size (encs .u8 (sha acc))); generalize (wa.alloc (.cells (encs .u8 z32s) 28)).setRow wa.heap.size (encs .u8 (sha acc)) = w4 at *; generalize wa.heap.size = gw at *) | fail)
          clear hN
          have HBK := Lib.hid hBK
          have HG := Lib.hid hg
          have HB := Lib.hid hb
          clear hBK hg hb hown
          dsimp only [Act.put]
          refine mix_start (fun w' => Below w4.heap.size w4 w') [0, 2, 1, 3, 4, 5, 7, 6, 8, 9, 10, 11, 13, 14, 12, 15, 16, 17] [1, 6, 12] [2, 7] [] (by kernel_rfl) (by kernel_rfl) (fun d _ _ _ _ h => by cases d <;> exact h) (Below.refl _ _).drew ?_
          repeat (refine mix_pure rfl rfl (fun K hK => ?_); go_simp; refine hK _ ?_; clear hK K)
          refine mix_load_row rfl rfl rfl rfl 28 _ rfl gw rfl _ 28 (0, 0) _ (fun w' hS => HBK.out.below hS HBK.out.lt) Try.underlying28 rfl (by rw [encs_size, HL.out]; exact sizeKey0) ?_
          refine mix_eff rfl rfl (fun K hK => ?_)
          go_simp
          refine (sum_any g gk acc _ (HG.out.below (Below.refl _ _).drew) (by have := HACC.out; omega)).mono ?_
          rintro e w5 ⟨rfl, hn⟩
          have hn5 : Below w4.heap.size w4 w5 := (Below.refl _ _).drew.trans hn
          refine hK _ _ (fun _ _ => hn5) ?_
          clear hK K hn
          repeat (refine mix_pure rfl rfl (fun K hK => ?_); go_simp; refine hK _ ?_; clear hK K)
          refine mix_load_row rfl rfl rfl rfl 28 _ rfl gw rfl _ 28 (0, 0) _ (fun w' hS => HBK.out.below hS HBK.out.lt) Try.underlying28 rfl (by rw [encs_size, HL.out]; exact sizeKey0) ?_
          refine mix_eff rfl rfl (fun K hK => ?_)
          go_simp
          refine (sum_any g gk acc _ (HG.out.below hn5) (by have := HACC.out; omega)).mono ?_
          rintro e w6 ⟨rfl, hn⟩
          have hn6 := hn5.trans (hn.mono hn5.size)
          refine hK _ _ (fun _ _ => hn6) ?_
          clear hK K hn
          repeat (refine mix_pure rfl rfl (fun K hK => ?_); go_simp; refine hK _ ?_; clear hK K)
          refine mix_eff rfl rfl (fun K hK => ?_)
          go_simp
          refine (len_any g gk acc _ (HG.out.below hn6)).mono ?_
          rintro e w' ⟨rfl, rfl⟩
          refine hK _ _ (fun _ h => h) ?_
          clear hK K
          repeat (refine mix_pure rfl rfl (fun K hK => ?_); go_simp; refine hK _ ?_; clear hK K)
          refine mix_nil ?_
          go_wp2_with fail
          go_ret
          exact ⟨by simp, HB.out.trans (hn6.mono HB.out.size)⟩
        · have j2 : ¬ (65536 : Int) < (acc.length : Int) := by omega
          go_wp2_with fail
          refine (room_v (HRP.out.below hb) HPL.out).mono ?_
          rintro e w3 ⟨g7, c7, rfl, hown7, hc7, hn⟩
          have hg7 : wr.heap.size ≤ g7 := (hown7.lt g7 rfl).1
          have hublk : ∀ q, (Value.slice A0 acc.length c0).ownBlock = some q → q < wr.heap.size ∧ B ≤ q := fun q hq => ⟨(hown.lt q hq).2, (hown.lt q hq).1⟩
          have hltg := hg.lt
          have hltk := hg.klt
          replace hown := hown.below hn
          replace hg := hg.below hn
          have hbs := hb.size
          replace hb := hb.trans (hn.mono hb.size)
          have hBs3 := Nat.le_trans hBs hn.size
          clear hn
          have hR7 := rd_left hown7.rd
          have HP7 : Hid (Arg w3 (.slice (some ⟨g7, 0, none⟩) p.length c7) p) := ⟨_, _, rfl, by omega, hR7⟩
          go_wp2_with fail
          refine (mwrite_any g gk acc p (some ⟨g7, 0, none⟩) c7 w3 hg hR7 (by omega) (fun a ha _ => by cases ha; show g7 ≠ g; omega) (by have := HPL.out; omega) (by have := HPL.out; have := HACC.out; omega)).mono ?_
          rintro e w4 ⟨rfl, hg4, hu⟩
          have hown4 := own_upd hown hu (fun q hq => by have := hublk q hq; omega)
          have hown74 := own_upd hown7 hu (fun q hq => by simp [Value.ownBlock] at hq; omega)
          have hb4 := Upd.below hb hu hgw hb.size
          have ha7 : Arg w4 (.slice (some ⟨g7, 0, none⟩) p.length c7) p := ⟨_, _, rfl, by omega, rd_left hown74.rd⟩
          have hs4 := hu.size
          clear hu hown hown7 hg hb hR7 HP7
          go_wp2_with fail
          refine (bytesEqual_v ha7 (HRP.out.below hb4)).mono ?_
          rintro e w' ⟨rfl, rfl⟩
          simp only [beq_self_eq_true]
          clear ha7
          go_wp2_with fail
          have hp1 : (p ++ [(7 : BitVec 8)]).length = p.length + 1 := by simp
          go_loopw [41] (fun vi wx => ∃ (j : Nat) (q : List (BitVec 8)), j ≤ p.length ∧ vi = .int .i64 j ∧ q.length = p.length + 1 ∧ OwnB wx wr.heap.size (.slice (some ⟨g7, 0, none⟩) (p.length + 1) c7) q ∧ Upd g7 w4 wx) (fun vi _ => p.length - (intOf vi).toNat)
          case atStart => exact ⟨0, _, by omega, rfl, hp1, hown74, Upd.refl _ _⟩
          case round =>
            clear hown74
            obtain ⟨j, q, hj, rfl, hql, hq, hu⟩ := hrel
            by_cases hjl : j < p.length
            · have m1 : (j : Int) < (p.length : Int) := by omega
              have m2 : (p.length : Int) ≤ 140737488351232 := by have := HPL.out; omega
              obtain ⟨c1, f1, st⟩ := own_store hq hql j (by omega)
              have hst := st (0xEE : BitVec 8)
              clear st
              go_wp2_with fail
              go_roundw
              case rel =>
                first | exact ⟨j + 1, q.set j 0xEE, by omega, by go_num, by rw [List.length_set]; exact hql, hst, hu.setCell _ _⟩ | ((repeat apply Exists.intro); exact ⟨⟨j + 1, q.set j 0xEE, by omega, by go_num, by rw [List.length_set]; exact hql, hst, hu.setCell _ _⟩, rfl⟩)
              case measure => simp [intOf]; omega
            · obtain rfl : j = p.length := by omega
              have m1 : ¬ (p.length : Int) < (p.length : Int) := by omega
              clear hq hql
              have hown5 := own_upd hown4 hu (fun q hq => by have := hublk q hq; omega)
              have hg5 := hg4.upd hu (by omega) (by omega)
              have hb5 := Upd.below hb4 hu (by omega) hb4.size
              have hs5 := hu.size
              clear hu hown4 hg4 hb4
              have hp5 := HRP.out.below hb5
              go_wp2_with (first | (at_builtin; refine wpList_appw rfl _ _ rfl B _ _ rfl hown5 _ _ rfl hp5 (by have := HPL.out; omega) (by omega) ?_; intro v6 w6 h6 hn6; obtain ⟨A6, c6, rfl, _, _⟩ := id h6.arg) | fail)
              replace hg5 := hg5.belowB hn6 hgB hkB
              replace hb5 := hb5.trans (hn6.mono hwB)
              have hs6 := hn6.size
              clear hn6 hp5
              refine (len_any g gk (acc ++ p) w6 hg5).mono ?_
              rintro e w' ⟨rfl, rfl⟩
              have hap : (acc ++ p).length = acc.length + p.length := List.length_append
              have HBD : Hid ((acc ++ p).length ≤ 140737488416768) := by show _ ≤ _; have := HPL.out; omega
              by_cases hk3 : k % 3 = 0
              · have n1 : ((k : Int) % 3 == 0) = true := by simp; omega
                go_wp2_with fail
                refine (sum_any g gk (acc ++ p) w6 hg5 (by have := HBD.out; omega)).mono ?_
                rintro e w7 ⟨rfl, hn⟩
                replace h6 := h6.below hn
                replace hg5 := hg5.below hn
                have hs7 := hn.size
                replace hb5 := hb5.trans (hn.mono hb5.size)
                clear hn
                go_wp2_with fail
                rw [← hap]
                refine (rsum_v h6.arg (by have := HBD.out; omega)).mono ?_
                rintro e w8 ⟨rfl, hn⟩
                replace h6 := h6.below hn
                replace hg5 := hg5.below hn
                have hs8 := hn.size
                replace hb5 := hb5.trans (hn.mono hb5.size)
                clear hn
                have heq := eq_key (sha (acc ++ p)) (sha (acc ++ p)) (sha_length _) (sha_length _) rfl
                go_wp2_with fail
                go_roundw
                case rel =>
                  have e1 := HFS1.out
                  have h9 : B ≤ w8.heap.size := by omega
                  have h6' : OwnB w8 B (.slice A6 (acc.length + p.length) c6) (ls.take (k + 1)).flatten := by rw [e1, ← hap]; exact h6
                  rw [← e1] at hg5
                  first | exact ⟨k + 1, by omega, by go_num, by rw [e1]; exact HBD.out, h6', hg5, h9, hb5⟩ | ((repeat apply Exists.intro); exact ⟨⟨k + 1, by omega, by go_num, by rw [e1]; exact HBD.out, h6', hg5, h9, hb5⟩, rfl⟩)
                case measure => simp [intOf]; omega
              · have n1 : ((k : Int) % 3 == 0) = false := by simp; omega
                go_wp2_with fail
                go_roundw
                case rel =>
                  have e1 := HFS1.out
                  have h9 : B ≤ w6.heap.size := by omega
                  have h6' : OwnB w6 B (.slice A6 (acc.length + p.length) c6) (ls.take (k + 1)).flatten := by rw [e1, ← hap]; exact h6
                  rw [← e1] at hg5
                  first | exact ⟨k + 1, by omega, by go_num, by rw [e1]; exact HBD.out, h6', hg5, h9, hb5⟩ | ((repeat apply Exists.intro); exact ⟨⟨k + 1, by omega, by go_num, by rw [e1]; exact HBD.out, h6', hg5, h9, hb5⟩, rfl⟩)
                case measure => simp [intOf]; omega
    · obtain rfl : k = ls.length := by omega
      have i1 : ¬ (ls.length : Int) < (ls.length : Int) := by omega
      go_wp2_with fail
      refine (rsum_v hown.arg (by have := HACC.out; omega)).mono ?_
      rintro e wa ⟨rfl, hn⟩
      replace hown := hown.below hn
      replace hg := hg.below hn
      replace hb := hb.trans (hn.mono hb.size)
      clear hn
      have hN := Blk.new wa (encs .u8 z32s) 28
      have hBK := hN.row (encs .u8 (sha acc))
      have hn : Below wa.heap.size wa ((wa.alloc (.cells (encs .u8 z32s) 28)).setRow wa.heap.size (encs .u8 (sha acc))) := below_setRow ((Below.refl _ _).alloc (Nat.le_refl _) _) (Nat.le_refl _) _
      replace hown := hown.below hn
      replace hg := hg.below hn
      replace hb := hb.trans (hn.mono hb.size)
      clear hn
      have HL := Lib.hid (sha_length acc)
      have heq := eq_key (sha acc) (sha acc) HL.out HL.out rfl
      go_wp2_with (first | (refine wpList_store_row rfl 28 _ _ rfl _ _ rfl rfl 28 _ hN (by rw [encs_size, HL.out]; exact sizeKey0) (by rw [encs_size, encs_size, HL.out]; rfl) (encs_one _ _) ?_; change wpList _ _ _ _ _ ((wa.alloc (.cells (encs .u8 z32s) 28)).setRow wa.heap.size (encs .u8 (sha acc))); generalize (wa.alloc (.cells (encs .u8 z32s) 28)).setRow wa.heap.size (encs .u8 (sha acc)) = w4 at *; generalize wa.heap.size = gw at *) | fail)
      clear hN
      have HBK := Lib.hid hBK
      have HG := Lib.hid hg
      have HB := Lib.hid hb
      clear hBK hg hb hown
      dsimp only [Act.put]
      refine mix_start (fun w' => Below w4.heap.size w4 w') [0, 2, 1, 3, 4, 5, 7, 6, 8, 9, 10, 11, 13, 14, 12, 15, 16, 17] [1, 6, 12] [2, 7] [] (by kernel_rfl) (by kernel_rfl) (fun d _ _ _ _ h => by cases d <;> exact h) (Below.refl _ _).drew ?_
      repeat (refine mix_pure rfl rfl (fun K hK => ?_); go_simp; refine hK _ ?_; clear hK K)
      refine mix_load_row rfl rfl rfl rfl 28 _ rfl gw rfl _ 28 (0, 0) _ (fun w' hS => HBK.out.below hS HBK.out.lt) Try.underlying28 rfl (by rw [encs_size, HL.out]; exact sizeKey0) ?_
      refine mix_eff rfl rfl (fun K hK => ?_)
      go_simp
      refine (sum_any g gk acc _ (HG.out.below (Below.refl _ _).drew) (by have := HACC.out; omega)).mono ?_
      rintro e w5 ⟨rfl, hn⟩
      have hn5 : Below w4.heap.size w4 w5 := (Below.refl _ _).drew.trans hn
      refine hK _ _ (fun _ _ => hn5) ?_
      clear hK K hn
      repeat (refine mix_pure rfl rfl (fun K hK => ?_); go_simp; refine hK _ ?_; clear hK K)
      refine mix_load_row rfl rfl rfl rfl 28 _ rfl gw rfl _ 28 (0, 0) _ (fun w' hS => HBK.out.below hS HBK.out.lt) Try.underlying28 rfl (by rw [encs_size, HL.out]; exact sizeKey0) ?_
      refine mix_eff rfl rfl (fun K hK => ?_)
      go_simp
      refine (sum_any g gk acc _ (HG.out.below hn5) (by have := HACC.out; omega)).mono ?_
      rintro e w6 ⟨rfl, hn⟩
      have hn6 := hn5.trans (hn.mono hn5.size)
      refine hK _ _ (fun _ _ => hn6) ?_
      clear hK K hn
      repeat (refine mix_pure rfl rfl (fun K hK => ?_); go_simp; refine hK _ ?_; clear hK K)
      refine mix_eff rfl rfl (fun K hK => ?_)
      go_simp
      refine (len_any g gk acc _ (HG.out.below hn6)).mono ?_
      rintro e w' ⟨rfl, rfl⟩
      refine hK _ _ (fun _ h => h) ?_
      clear hK K
      repeat (refine mix_pure rfl rfl (fun K hK => ?_); go_simp; refine hK _ ?_; clear hK K)
      refine mix_nil ?_
      go_wp2_with fail
      go_ret
      exact ⟨by simp, HB.out.trans (hn6.mono HB.out.size)⟩
end Go.Proofs.Ytpledkahbifnfaa
