/- frame.GetAnnounce walked. -/
import Derived.Test.YtjnbgoiaocpcjaaFrAnn
namespace Go.Proofs.Ytjnbgoiaocpcjaa
open Go.RowKit
set_option linter.unusedVariables false
set_option linter.unusedSimpArgs false
attribute [local go_sem] conv8_int_g min_imin
theorem wpList_load_row_ga {P : Program} {ops : Array Oper} {rest : List Oper} {o : Oper} {a : Act} {w : World} {Q : Exit → Act → World → Prop} (hw : Region.wanted o (yielded ops a.tmps) = true) (ty : TypeId) (x : Operand) (ho : o.op = .load ty x)
    (g : Nat) (hx : a.eval x = .pointer (some ⟨g, 0, none⟩)) (t : TypeId) (cs : Array Value) (fr : Nat × Nat) (d : TypeDesc) (hg : w.heap[g]? = some (.cells cs t fr))
    (hu : P.underlying ty = some d) (hd : (match d with | .struct _ | .array _ _ => true | _ => false) = true) (hi : (P.info? ty).map (·.size) = some cs.size)
    (h : wpList P ops Q rest (a.put o.dst (.agg cs)) w) : wpList P ops Q (o :: rest) a w := by
  refine wpList_step fun K hK => ?_
  rw [if_pos hw]
  exact wp_load_row ty x ho g hx t cs fr d hg hu hd hi (hK _ _ h)
theorem Rdr.belowB {w w' : World} {g B : Nat} {A : Option Addr} {cap : Nat} {b : List (BitVec 8)} {at_ : Nat} {err : Int} (h : Rdr w g A cap b at_ err) (hb : Below B w w') (hg : g < B) (hA : ∀ a, A = some a → a.block < B) : Rdr w' g A cap b at_ err :=
  ⟨h.blk.below hb hg, fun i hi => by
    obtain ⟨g', off, rfl, hc⟩ := h.rd i hi
    exact ⟨g', off, rfl, (World.cell?_of_block (hb.block g' (hA _ rfl))).trans hc⟩, h.far, h.hcap, h.hle, h.hlen⟩
theorem Rdr.updO {w w' : World} {g p : Nat} {A : Option Addr} {cap : Nat} {b : List (BitVec 8)} {at_ : Nat} {err : Int} (h : Rdr w g A cap b at_ err) (hu : Upd p w w') (hg : g ≠ p) (hA : ∀ a, A = some a → a.block ≠ p) : Rdr w' g A cap b at_ err :=
  ⟨h.blk.upd hu hg, h.rd.upd hu hA, h.far, h.hcap, h.hle, h.hlen⟩
theorem Rdr.low {w : World} {g : Nat} {A : Option Addr} {cap : Nat} {b : List (BitVec 8)} {at_ : Nat} {err : Int} (h : Rdr w g A cap b at_ err) (h0 : 0 < b.length) : ∀ a, A = some a → a.block < w.heap.size := fun a ha => by
  obtain ⟨g', off, he, hc⟩ := h.rd 0 h0
  rw [ha] at he
  cases he
  exact World.block_lt_of_cell? _ _ hc
set_option maxRecDepth 100000 in
set_option maxHeartbeats 4000000 in
theorem getann_any (b : List (BitVec 8)) (v : Value) (w : World) (hb : Arg w v b) (hl : b.length ≤ 1048576) :
    Calls Try.prog 44 #[v] w (AnnP (annR b) (annN b) (annL b) (annE b) w) := by
  have hHB := Lib.hid hb
  obtain ⟨A, cap, rfl, hc, hR⟩ := hb
  have mb0 := Blk.new w #[.int .u64 0, .slice none 0 0] 78
  have hb0 : Below w.heap.size w (w.alloc (.cells #[.int .u64 0, .slice none 0 0] 78)) := (Below.refl _ _).alloc (Nat.le_refl _) _
  by_cases h106 : b.length = 106
  · have h106i : ((b.length : Int) != 106) = false := by rw [h106]; rfl
    have hl1 : (b.drop 1).length = 105 := by rw [List.length_drop]; omega
    have HL105 := Lib.hid hl1
    have hA : Arg w (.slice (cutA A 1 cap 1) 105 (cap - 1)) (b.drop 1) := by
      have := rd_cut hR 1 105 cap hc
      rw [List.take_of_length_le (by rw [List.length_drop]; omega)] at this
      exact arg_of this hl1 (by omega)
    have HA := Lib.hid hA
    have hs := fun wx => run_slice_from (P := Try.prog) bytesT A 106 cap 1 .i64 (by omega) (by omega) wx
    rw [show (1 : Int).toNat = 1 from rfl, show 106 - 1 = 105 from rfl] at hs
    obtain ⟨a1, a2, a3, _⟩ := rd_ok (b.drop 1) 0 8 8 rfl (by omega)
    obtain ⟨b1, b2, b3, b4⟩ := rd_ok (b.drop 1) 8 1 1 rfl (by omega)
    have A1 : Hid (get64 (rdGot (b.drop 1) 0 0 8) = get64 (b.drop 1)) := by
      show _ = _
      rw [a1, List.drop_zero]
      simp [get64, List.take_take]
    have A2 := Lib.hid a2
    have A3 := Lib.hid a3
    rw [show 0 + 8 = 8 from rfl] at A2
    have B1 : Hid (rdGot (b.drop 1) 8 0 1 = [b.getD 9 0]) := by
      show _ = _
      rw [b1, List.drop_drop]
      have h9 : 9 < b.length := by omega
      rw [show 1 + 8 = 9 from rfl, List.drop_eq_getElem_cons h9]
      show [b[9]] = [b.getD 9 0]
      rw [List.getD_eq_getElem?_getD, List.getElem?_eq_getElem h9]
      rfl
    have B2 := Lib.hid b2
    have B3 := Lib.hid b3
    rw [show 8 + 1 = 9 from rfl] at B2
    have HST := Lib.hid (key_step b h106)
    have HKL := Lib.hid (keyK_length b h106)
    have HKS := Lib.hid (keysK_succ b)
    have HL1 : Hid ((b.drop 1).length ≤ 140737488355328) := by show _ ≤ _; omega
    obtain ⟨g0, off, rfl, hcell0⟩ := hR 0 (by omega)
    rw [Nat.add_zero] at hcell0
    have hH := Lib.hid h106
    obtain ⟨M, hM⟩ : ∃ M, M = annM b := ⟨_, rfl⟩
    have hmin : imin (wb (b.getD 9 0)) 4 = (M : Int) := by rw [hM]; unfold annM wb imin; split <;> omega
    have hM4 : M ≤ 4 := by rw [hM]; unfold annM; omega
    have HM := Lib.hid hM
    have HOK : Hid (okA b = ((!(wb (b.getD 0 0) != 1)) && rightA (get64 (b.drop 1)) M && (b.drop (10 + 32 * M)).all (· == 0))) := by
      show _ = _
      rw [hM, show (wb (b.getD 0 0) != 1) = (b.getD 0 0 != 1) from wb_neq8 _ 1]
      unfold okA bne
      rw [Bool.not_not]
    have HP0 : Hid (okA b = false → ∀ w', Below w.heap.size w w' → AnnP (annR b) (annN b) (annL b) (annE b) w (.returned (.tuple #[.agg #[.int .u64 0, .slice none 0 0], .int .i64 241])) w') := fun ho w' h2 => by
      have e : annOk b = false := by simp [annOk, ho]
      unfold annR annN annL annE
      rw [e, if_pos h106, ho]
      exact ⟨_, rfl, OwnK.nil _ _, h2⟩
    have HP1 : Hid (okA b = true → M ≤ 3 → ∀ A c w', OwnK w' w.heap.size (.slice A M c) M (keysK b M) → Below w.heap.size w w' → AnnP (annR b) (annN b) (annL b) (annE b) w (.returned (.tuple #[.agg #[.int .u64 (wb (get64 (b.drop 1))), .slice A M c], .int .i64 0])) w') := fun ho h3 A c w' h1 h2 => by
      have e : annOk b = true := by simp [annOk, ho, h106]
      unfold annR annN annL annE
      rw [e, if_pos h106, ho, ← hM]
      rw [keysK_ok b h106 M h3] at h1
      exact ⟨_, rfl, h1, h2⟩
    have HRS : Hid (M ≤ 3 → rdGot (b.drop 1) (9 + 32 * M) 0 (((b.drop 1).length : Int) - ((9 + 32 * M : Nat) : Int)) = b.drop (10 + 32 * M)) := fun h3 => by
      obtain ⟨c1, -, -, -⟩ := rd_ok (b.drop 1) (9 + 32 * M) (105 - (9 + 32 * M)) (((b.drop 1).length : Int) - ((9 + 32 * M : Nat) : Int)) (by rw [hl1]; omega) (by omega)
      rw [c1, List.drop_drop, List.take_of_length_le (by rw [List.length_drop]; omega)]
      congr 1
      omega
    rw [h106] at hc ⊢
    clear a1 a2 a3 b1 b2 b3 b4 hA hR hl1 hM hHB
    generalize b.getD 9 0 = nb at *
    generalize b.getD 0 0 = fb at *
    go_enter Try.func44, Try.ntmps44
    go_wp2_with fail
    refine (read_v (HA.out.below hb0) HL1.out).mono ?_
    rintro e w1 ⟨g, A', cap', rfl, hr, hg, hb1⟩
    have hw := hb0.trans (hb1.mono hb0.size)
    replace mb0 := mb0.below hb1 mb0.lt
    have hHg : w.heap.size < g := by simp at hg; omega
    clear hb1 hb0 hg
    go_wp2_with fail
    refine (u64_any g A' cap' (b.drop 1) 0 0 w1 hr).mono ?_
    rintro e w2 ⟨rfl, hr2, hu⟩
    rw [A1.out]
    rw [A2.out, A3.out] at hr2
    replace hw := Upd.below hw hu (by omega) hw.size
    replace mb0 := mb0.upd hu (by omega)
    clear hr hu
    generalize hRR : get64 (b.drop 1) = R at *
    have HBU := Lib.hid (build_ann R)
    have hgP : g < w2.heap.size := hr2.blk.lt
    have HLO := Lib.hid (hr2.low (by rw [HL105.out]; omega))
    have hn3 : Below w2.heap.size w2 (w2.alloc (.cells #[.int .u64 (wb R), .slice none 0 0] 78)) := (Below.refl _ _).alloc (Nat.le_refl _) _
    have mbP := Blk.new w2 #[.int .u64 (wb R), .slice none 0 0] 78
    replace mb0 := mb0.below hn3 mb0.lt
    replace hr2 := hr2.below hn3
    replace hw := hw.trans (hn3.mono hw.size)
    clear hn3
    go_wp2_with (first | (refine wpList_build rfl 78 _ rfl (.agg #[.int .u64 (wb R), .slice none 0 0]) _ HBU.out (by simp [Act.eval, Act.put]) ?_) | (refine wpList_store_last rfl 78 _ _ rfl _ _ #[.int .u64 (wb R), .slice none 0 0] 78 rfl rfl rfl (by exact size_ann) (by simp) (by simp [Value.oneCell']) ?_; generalize w2.alloc (.cells #[.int .u64 (wb R), .slice none 0 0] 78) = w3 at *) | fail)
    refine (raw_any g A' cap' (b.drop 1) 8 0 1 w3 hr2).mono ?_
    rintro e w4 ⟨v4, rfl, ho, hr4, hu⟩
    rw [B1.out] at ho
    rw [B2.out, B3.out] at hr4
    replace ho : OwnB w4 w3.heap.size v4 [nb] := ho
    have hlP := mbP.lt
    replace mb0 := mb0.upd hu (by omega)
    replace mbP := mbP.upd hu (by omega)
    replace hw := Upd.below hw hu (by omega) hw.size
    obtain ⟨A4, c4, rfl, hc4, hR4⟩ := ho.arg
    obtain ⟨g4, o4, rfl, hcell4⟩ := hR4 0 (by simp)
    replace hcell4 : w4.cell? ⟨g4, o4 + 0, none⟩ = some (.int .u8 (wb nb)) := hcell4
    rw [Nat.add_zero] at hcell4
    have hP4 : w2.heap.size < w4.heap.size := Nat.lt_of_lt_of_le hlP hu.size
    clear hu ho hR4 hr2 hlP hc4 hs
    go_wp2_with fail
    clear hcell4
    have hbP : w.heap.size < w2.heap.size := by omega
    go_loopw [22] (fun i wr => ∃ (k : Nat) (v : Value), k ≤ M ∧ i = .int .i64 k ∧ Blk wr w2.heap.size #[.int .u64 (wb R), v] 78 ∧ OwnK wr (w2.heap.size + 1) v k (keysK b k) ∧ Rdr wr g A' cap' (b.drop 1) (9 + 32 * min k 3) (errK k) ∧ Blk wr w.heap.size #[.int .u64 0, .slice none 0 0] 78 ∧ Below w.heap.size w wr ∧ w2.heap.size < wr.heap.size) (fun i _ => M - (intOf i).toNat)
    case atStart => exact ⟨0, _, Nat.zero_le _, rfl, mbP, OwnK.nil _ _, hr4, mb0, hw, hP4⟩
    case round =>
      clear mbP hr4 mb0 hw hP4
      obtain ⟨k, v, hk, rfl, mbP, ho, hr, mb0, hw, hPr⟩ := hrel
      obtain ⟨oA, oc, rfl⟩ := id ho.form
      by_cases hlt : k < M
      · have i1 : (k : Int) < (M : Int) := by omega
        have hk3 : k ≤ 3 := by omega
        obtain ⟨k1, k2, k3⟩ := HST.out k hk3
        have K1 := Lib.hid k1
        have K2 := Lib.hid k2
        have K3 := Lib.hid k3
        have hr' : Rdr wr g A' cap' (b.drop 1) (9 + 32 * k) 0 := by
          have e1 : 9 + 32 * min k 3 = 9 + 32 * k := by omega
          have e2 : errK k = 0 := by unfold errK; rw [if_pos hk3]
          rw [e1, e2] at hr
          exact hr
        have hcP : wr.cell? ⟨w2.heap.size, 1, none⟩ = some (.slice oA k oc) := mbP.cell 1
        have HKK := Lib.hid (HKL.out k hk3)
        have HLT := Lib.hid hlt
        clear k1 k2 k3 hr hlt
        go_wp2_with fail
        refine mix_start (fun w' => w'.cell? ⟨w2.heap.size, 1, none⟩ = some (.slice oA k oc)) (List.range 8) [3, 4, 5, 7] [1] [7] (by kernel_rfl) (by kernel_rfl) (fun d _ _ _ _ h => by cases d <;> exact h) hcP ?_
        replace mbP := mbP.drew
        replace mb0 := mb0.drew
        replace hw := hw.drew
        replace ho : OwnK wr.drew (w2.heap.size + 1) (.slice oA k oc) k (keysK b k) := ho
        replace hr' := hr'.below (Below.refl _ _).drew
        replace hPr : w2.heap.size < wr.drew.heap.size := hPr
        clear hcP
        generalize wr.drew = x0 at *
        repeat (refine mix_pure rfl rfl (fun K hK => ?_); go_simp; refine hK _ ?_; clear hK K)
        refine mix_read (.slice oA k oc) rfl rfl rfl rfl (fun w' hS => by go_simp) ?_
        repeat (refine mix_pure rfl rfl (fun K hK => ?_); go_simp; refine hK _ ?_; clear hK K)
        refine mix_eff rfl rfl (fun F hF => ?_)
        go_simp
        refine (key_any g A' cap' (b.drop 1) (9 + 32 * k) 0 x0 hr').mono ?_
        rintro e x1 ⟨rfl, hr, hu⟩
        rw [K1.out]
        rw [K2.out, K3.out] at hr
        replace mbP := mbP.upd hu (by omega)
        replace mb0 := mb0.upd hu (by omega)
        replace ho := ho.upd hu (by omega)
        replace hw := Upd.below hw hu (by omega) hw.size
        replace hPr := Nat.lt_of_lt_of_le hPr hu.size
        refine hF _ _ (fun _ _ => mbP.cell 1) ?_
        clear hF F hu hr'
        refine mix_eff rfl rfl (fun F hF => ?_)
        refine step_bslice_key rfl _ rfl (keyK b k) HKK.out rfl ?_
        have hn : Below x1.heap.size x1 (x1.alloc (.cells (encs .u8 (keyK b k)) 26)) := (Below.refl _ _).alloc (Nat.le_refl _) _
        have mbK := Blk.new x1 (encs .u8 (keyK b k)) 26
        replace mbP := mbP.below hn mbP.lt
        replace mb0 := mb0.below hn mb0.lt
        replace ho := ho.below hn
        replace hr := hr.below hn
        replace hw := hw.trans (hn.mono hw.size)
        replace hPr := Nat.lt_of_lt_of_le hPr hn.size
        refine hF _ _ (fun _ _ => mbP.cell 1) ?_
        generalize x1.alloc (.cells (encs .u8 (keyK b k)) 26) = x2 at *
        clear hF F hn
        refine mix_eff rfl rfl (fun F hF => ?_)
        refine step_appk rfl rfl _ _ rfl (w2.heap.size + 1) _ k (keysK b k) rfl ho x1.heap.size (keyK b k) HKK.out rfl mbK (by omega) hPr (fun v3 x3 ho3 hgr hn => ?_)
        obtain ⟨nA, nc, rfl⟩ := id ho3.form
        replace mbP := mbP.below hn (by omega)
        replace mb0 := mb0.below hn (by omega)
        replace hr := hr.belowB hn (by omega) (fun a ha => by have := HLO.out a ha; omega)
        replace hw := hw.trans (hn.mono (by omega))
        replace hPr := mbP.lt
        refine hF _ _ (fun _ _ => mbP.cell 1) ?_
        clear hF F hn hgr ho mbK
        repeat (refine mix_pure rfl rfl (fun K hK => ?_); go_simp; refine hK _ ?_; clear hK K)
        rw [HKS.out] at ho3
        have hcP := mbP.cell 1
        have hfP := mbP.frozen 1
        have hu4 : Upd w2.heap.size x3 (x3.setCell ⟨w2.heap.size, 1, none⟩ (.slice nA (k + 1) nc)) := (Upd.refl _ x3).setCell 1 (.slice nA (k + 1) nc)
        replace mbP : Blk (x3.setCell ⟨w2.heap.size, 1, none⟩ (.slice nA (k + 1) nc)) w2.heap.size #[.int .u64 (wb R), .slice nA (k + 1) nc] 78 := mbP.set 1 (.slice nA (k + 1) nc)
        replace mb0 := mb0.upd hu4 (by omega)
        replace ho3 := ho3.upd hu4 (by omega)
        replace hr := hr.updO hu4 (by omega) (fun a ha => by have := HLO.out a ha; omega)
        replace hw := Upd.below hw hu4 (by omega) hw.size
        replace hPr := Nat.lt_of_lt_of_le hPr hu4.size
        refine mix_ds rfl rfl rfl (fun F hF => ?_)
        go_simp
        refine hF _ _ ?_
        generalize x3.setCell ⟨w2.heap.size, 1, none⟩ (.slice nA (k + 1) nc) = x4 at *
        clear hF F hu4 hcP hfP
        refine mix_nil ?_
        go_wp2_with fail
        go_roundw
        case rel =>
          first | exact ⟨k + 1, _, by have := HLT.out; omega, by go_num, mbP, ho3, hr, mb0, hw, hPr⟩ | ((repeat apply Exists.intro); exact ⟨⟨k + 1, _, by have := HLT.out; omega, by go_num, mbP, ho3, hr, mb0, hw, hPr⟩, rfl⟩)
        case measure => simp [intOf]; have := HLT.out; omega
      · obtain rfl : k = M := by omega
        have hc0 := below_cell hw hcell0
        have hnn : w.heap.size ≠ w2.heap.size := by omega
        clear hcell0 HST HKL HKS
        have hend : ∀ wx, Blk wx w.heap.size #[.int .u64 0, .slice none 0 0] 78 → Below w.heap.size w wx → Below w.heap.size w (wx.setRow w.heap.size #[.int .u64 0, .slice none 0 0]) := fun wx _ h => below_setRow h (Nat.le_refl _) _
        have HEND := Lib.hid hend
        clear hend
        cases hq : (wb fb != 1) with
        | true =>
          rw [hq] at HOK
          go_wp2_with (first | (refine wpList_store_row rfl 78 _ _ rfl _ _ rfl rfl 78 _ mb0 (by exact size_ann) (by simp) (by simp [Value.oneCell']) ?_) | fail)
          refine bodyPost_ret (v := .tuple #[.agg #[.int .u64 0, .slice none 0 0], .int .i64 241]) (results_cell_tmp rfl _ _ _ _ _ _ _ _ rfl rfl (mb0.row _) Try.underlying78 rfl (by exact size_ann)) rfl ?_
          exact HP0.out HOK.out _ (HEND.out _ mb0 hw)
        | false =>
          rw [hq] at HOK
          go_wp2_with (first | (refine wpList_load_row_ga rfl 78 _ rfl _ rfl 78 _ _ _ mbP Try.underlying78 rfl (by exact size_ann) ?_) | fail)
          refine (right_any3 R oA k oc wr).mono ?_
          rintro e x1 ⟨rfl, hn⟩
          replace mbP := mbP.below hn mbP.lt
          replace mb0 := mb0.below hn mb0.lt
          replace ho := ho.below hn
          replace hr := hr.below hn
          replace hw := hw.trans (hn.mono hw.size)
          replace hPr := Nat.lt_of_lt_of_le hPr hn.size
          clear hn hc0
          cases hE : rightA R k with
          | false =>
            rw [hE] at HOK
            go_wp2_with (first | (refine wpList_store_row rfl 78 _ _ rfl _ _ rfl rfl 78 _ mb0 (by exact size_ann) (by simp) (by simp [Value.oneCell']) ?_) | fail)
            refine bodyPost_ret (v := .tuple #[.agg #[.int .u64 0, .slice none 0 0], .int .i64 241]) (results_cell_tmp rfl _ _ _ _ _ _ _ _ rfl rfl (mb0.row _) Try.underlying78 rfl (by exact size_ann)) rfl ?_
            exact HP0.out HOK.out _ (HEND.out _ mb0 hw)
          | true =>
            rw [hE] at HOK
            have hk3 : k ≤ 3 := by
              unfold rightA at hE
              simp at hE
              exact hE.2
            have hre : Rdr x1 g A' cap' (b.drop 1) (9 + 32 * k) 0 := by
              have e1 : 9 + 32 * min k 3 = 9 + 32 * k := by omega
              have e2 : errK k = 0 := by unfold errK; rw [if_pos hk3]
              rw [e1, e2] at hr
              exact hr
            have HRS' := Lib.hid (HRS.out hk3)
            clear hr hE
            go_wp2_with fail
            refine (left_any g A' cap' (b.drop 1) (9 + 32 * k) 0 x1 hre).mono ?_
            rintro e w' ⟨rfl, n, rfl⟩
            have hn : Below x1.heap.size x1 (x1.drewN n) := below_drewN (Below.refl _ x1) n
            replace mbP := mbP.below hn mbP.lt
            replace mb0 := mb0.below hn mb0.lt
            replace ho := ho.below hn
            replace hre := hre.below hn
            replace hw := hw.trans (hn.mono hw.size)
            replace hPr := Nat.lt_of_lt_of_le hPr hn.size
            generalize x1.drewN n = x2 at *
            clear hn
            generalize ((b.drop 1).length : Int) - ((9 + 32 * k : Nat) : Int) = rest at *
            go_wp2_with fail
            refine (raw_any g A' cap' (b.drop 1) (9 + 32 * k) 0 rest x2 hre).mono ?_
            rintro e x3 ⟨v7, rfl, ho7, hr7, hu⟩
            rw [HRS'.out] at ho7
            replace ho7 : OwnB x3 x2.heap.size v7 (b.drop (10 + 32 * k)) := ho7
            replace mbP := mbP.upd hu (by omega)
            replace mb0 := mb0.upd hu (by omega)
            replace ho := ho.upd hu (by omega)
            replace hw := Upd.below hw hu (by omega) hw.size
            clear hr7 hu hre
            have HZ := Lib.hid (zero_v ho7.arg (by rw [List.length_drop]; omega))
            clear ho7
            go_wp2_with fail
            refine HZ.out.mono ?_
            rintro e w' ⟨rfl, rfl⟩
            clear HZ
            cases hZ : (b.drop (10 + 32 * k)).all (· == 0) with
            | false =>
              rw [hZ] at HOK
              go_wp2_with (first | (refine wpList_store_row rfl 78 _ _ rfl _ _ rfl rfl 78 _ mb0 (by exact size_ann) (by simp) (by simp [Value.oneCell']) ?_) | fail)
              refine bodyPost_ret (v := .tuple #[.agg #[.int .u64 0, .slice none 0 0], .int .i64 241]) (results_cell_tmp rfl _ _ _ _ _ _ _ _ rfl rfl (mb0.row _) Try.underlying78 rfl (by exact size_ann)) rfl ?_
              exact HP0.out HOK.out _ (HEND.out _ mb0 hw)
            | true =>
              rw [hZ] at HOK
              go_wp2_with (first | (refine wpList_load_row rfl 78 _ rfl _ rfl 78 _ _ _ mbP Try.underlying78 rfl (by exact size_ann) ?_) | (refine wpList_store_row rfl 78 _ _ rfl _ _ rfl rfl 78 _ mb0 (by exact size_ann) (by simp) (by simp [Value.oneCell']) ?_) | fail)
              refine bodyPost_ret (v := .tuple #[.agg #[.int .u64 (wb R), .slice oA k oc], .int .i64 0]) (results_cell_tmp rfl _ _ _ _ _ _ _ _ rfl rfl (mb0.row _) Try.underlying78 rfl (by exact size_ann)) rfl ?_
              exact HP1.out HOK.out hk3 _ _ _ ((ho.upd ((Upd.refl _ x3).setRow _) (by omega)).base (by omega)) (below_setRow hw (Nat.le_refl _) _)
  · have h106i : ((b.length : Int) != 106) = true := by
      rw [bne_iff_ne]; omega
    have hmb := Blk.new w #[.int .u64 0, .slice none 0 0] 78
    clear hHB
    go_enter Try.func44, Try.ntmps44
    go_wp2_with (first | (refine wpList_store_row rfl 78 _ _ rfl _ _ rfl rfl 78 _ mb0 (by exact size_ann) (by simp) (by simp [Value.oneCell']) ?_) | fail)
    refine bodyPost_ret (v := .tuple #[.agg #[.int .u64 0, .slice none 0 0], .int .i64 240]) (results_cell_tmp rfl _ _ _ _ _ _ _ _ rfl rfl (mb0.row _) Try.underlying78 rfl (by exact size_ann)) rfl ?_
    have e : annOk b = false := by simp [annOk, h106]
    unfold annR annN annL annE
    rw [e, if_neg h106]
    exact ⟨_, rfl, OwnK.nil _ _, below_setRow hb0 (Nat.le_refl _) _⟩
end Go.Proofs.Ytjnbgoiaocpcjaa
