/- The reference's GetUp, GetDown (printed by genrup.py). -/
import Derived.Test.YtjnbgoiaocpcjaaFrGetP
import Derived.Test.YtjnbgoiaocpcjaaFrHops
import Derived.Test.YtjnbgoiaocpcjaaFrRefG
namespace Go.Proofs.Ytjnbgoiaocpcjaa
open Go.RowKit
set_option linter.unusedVariables false
set_option linter.unusedSimpArgs false
attribute [local go_sem] conv8_int_g
def RUpP (kind : BitVec 8) (b : List (BitVec 8)) (w : World) (e : Ending) (w' : World) : Prop :=
  ∃ v, e = .returned (.tuple #[.agg #[.int .i64 (wb (b.getD 1 0)), .int .i64 (wb (b.getD 2 0)), .int .u64 (wb (get64 (b.drop 3))), v], .bool (pkOk kind b)]) ∧ Arg w' v (b.drop 11) ∧ Below w.heap.size w w'
theorem Args.nil0 (w : World) : Args w none [] := fun i hi => by simp at hi
theorem OwnB.block {w : World} {base : Nat} {v : Value} {l : List (BitVec 8)} (h : OwnB w base v l) : ∃ A cap, v = .slice A l.length cap ∧ l.length ≤ cap ∧ Rd w .u8 A l ∧ (∀ a, A = some a → base ≤ a.block ∧ a.block < w.heap.size) := by
  obtain ⟨A, cap, hv, hc, _, _, _, ha⟩ := owns_form h
  obtain ⟨A', cap', hv', hc', hr'⟩ := h.arg
  rw [hv] at hv'
  cases hv'
  exact ⟨A, cap, hv, hc, hr', fun a he => ⟨(ha a he).2.2.1, (ha a he).2.2.2.1⟩⟩
set_option maxRecDepth 100000 in
set_option maxHeartbeats 8000000 in
theorem rgetup_any (b : List (BitVec 8)) (v : Value) (w : World) (hb : Arg w v b) (hl : b.length ≤ 1048576) (h11 : 11 ≤ b.length) :
    Calls Try.prog 50 #[v] w (RUpP 2 b w) := by
  obtain ⟨A, cap, rfl, hc, hR⟩ := hb
  have HR3 := Lib.hid (rd_cut hR 3 8 cap hc)
  have hr11 := rd_cut hR 11 (b.length - 11) cap hc
  rw [List.take_of_length_le (by rw [List.length_drop]; omega)] at hr11
  have HA11 := Lib.hid (arg_of hr11 (List.length_drop ..) (show b.length - 11 ≤ cap - 11 by omega))
  have HL3 : Hid (((b.drop 3).take 8).length = 8) := by show _ = _; rw [List.length_take, List.length_drop]; omega
  have HA3 := Lib.hid (arg_of HR3.out HL3.out (show 8 ≤ cap - 3 by omega))
  have HN : Hid (num ((b.drop 3).take 8) = get64 (b.drop 3)) := by show _ = _; rfl
  have HL11 : Hid ((b.drop 11).length ≤ 140737488355328) := by show _ ≤ _; rw [List.length_drop]; omega
  have hs1 := fun wx => run_slice_row (P := Try.prog) bytesT A b.length cap 3 11 .i64 .i64 (by omega) (by omega) (by omega) wx
  have hs2 := fun wx => run_slice_from (P := Try.prog) bytesT A b.length cap 11 .i64 (by omega) (by omega) wx
  rw [show (3 : Int).toNat = 3 from rfl, show (11 : Int).toNat = 11 from rfl, show 11 - 3 = 8 from rfl] at hs1
  rw [show (11 : Int).toNat = 11 from rfl] at hs2
  obtain ⟨g0, off, rfl, hcell0⟩ := hR 0 (by omega)
  obtain ⟨_, _, he1, hcell1⟩ := hR 1 (by omega)
  cases he1
  obtain ⟨_, _, he2, hcell2⟩ := hR 2 (by omega)
  cases he2
  have hi1 : (1 : Int) < (b.length : Int) := by omega
  have hi2 : (2 : Int) < (b.length : Int) := by omega
  have hi0 : (0 : Int) < (b.length : Int) := by omega
  rw [Nat.add_zero] at hcell0
  have HOK : Hid (((wb (b.getD 0 0) == 2) && endsB (wb (b.getD 1 0)) (wb (b.getD 2 0)) (get64 (b.drop 3))) = pkOk 2 b) := by
    show _ = _
    have e : ((wb (b.getD 0 0) : Int) == 2) = (b.getD 0 0 == 2) := by
      have := wb_neq8 (b.getD 0 0) 2
      rw [show wb (2 : BitVec 8) = 2 from rfl] at this
      unfold bne at this
      rw [Bool.not_inj_iff] at this
      exact this
    unfold pkOk
    rw [e]
  have HPOST : Hid (∀ v w', Arg w' v (b.drop 11) → Below w.heap.size w w' → RUpP 2 b w (.returned (.tuple #[.agg #[.int .i64 (wb (b.getD 1 0)), .int .i64 (wb (b.getD 2 0)), .int .u64 (wb (get64 (b.drop 3))), v], .bool (pkOk 2 b)])) w') := fun v w' h1 h2 => ⟨v, rfl, h1, h2⟩
  clear hR hr11
  generalize b.getD 0 0 = kb at *
  generalize b.getD 1 0 = cb at *
  generalize b.getD 2 0 = sb at *
  generalize get64 (b.drop 3) = R at *
  generalize pkOk 2 b = OK at *
  generalize hL : b.drop 11 = L at *
  clear hL
  have hi0n : 0 < b.length := by omega
  have hi0m : ¬ b.length = 0 := by omega
  generalize b.length = N at *
  have HK := Lib.hid (fun wx => rends_any (wb cb) (wb sb) R wx)
  have hb0 : Below w.heap.size w (w.alloc (.cells #[.int .i64 0, .int .i64 0, .int .u64 0, .slice none 0 0] 57)) := (Below.refl _ _).alloc (Nat.le_refl _) _
  have mb0 := Blk.new w #[.int .i64 0, .int .i64 0, .int .u64 0, .slice none 0 0] 57
  go_enter Try.func50, Try.ntmps50
  go_wp2_with fail
  refine mix_plan (fun w' => Below w.heap.size w w') (.step 0 (.step 1 (.step 2 (.step 3 (.step 4 (.step 5 (.step 6 (.step 7 (.step 8 (.step 9 (.step 11 (.step 12 (.fork 10 15 (.fork 13 15 (.step 14 (.step 15 (.step 16 (.done)))) (.step 13 (.step 14 (.step 16 (.done))))) (.step 10 (.step 13 (.step 14 (.step 16 (.done)))))))))))))))))) [10, 13, 15, 16] [2, 6] [] (by kernel_rfl) (by kernel_rfl) (fun d _ _ _ _ h => by cases d <;> exact h) hb0.drew ?_
  replace hb0 := hb0.drew
  replace mb0 := mb0.drew
  generalize (w.alloc (.cells #[.int .i64 0, .int .i64 0, .int .u64 0, .slice none 0 0] 57)).drew = x0 at *
  have hx0 : w.heap.size < x0.heap.size := mb0.lt
  repeat (refine mix_pure rfl rfl (fun K hK => ?_); go_simp; refine hK _ ?_; clear hK K)
  refine mix_read (.int .u8 (wb cb)) rfl rfl rfl rfl (fun w' hS => ?_) ?_
  · have hc' := below_cell hS hcell1
    go_simp
  repeat (refine mix_pure rfl rfl (fun K hK => ?_); go_simp; refine hK _ ?_; clear hK K)
  refine mix_read (.int .u8 (wb sb)) rfl rfl rfl rfl (fun w' hS => ?_) ?_
  · have hc' := below_cell hS hcell2
    go_simp
  repeat (refine mix_pure rfl rfl (fun K hK => ?_); go_simp; refine hK _ ?_; clear hK K)
  refine mix_fork rfl rfl (fun K hK => ?_) (fun K hK => ?_)
  · go_simp
    refine (rnum14_v (HA3.out.below hb0) (by rw [HL3.out]; omega)).mono ?_
    rintro e w' ⟨rfl, rfl⟩
    refine hK _ _ (fun _ h => h) ?_
    clear hK K
    repeat (refine mix_pure rfl rfl (fun K hK => ?_); go_simp; refine hK _ ?_; clear hK K)
    rw [HN.out]
    refine mix_fork rfl rfl (fun K hK => ?_) (fun K hK => ?_)
    · go_simp
      refine (rboth14_any L _ [] none 0 x0 (HA11.out.below hb0) (Args.nil0 _) (by simpa using HL11.out) (by simp)).mono ?_
      rintro e x1 ⟨u13, rfl, h13, hn⟩
      replace h13 : OwnB x1 x0.heap.size u13 (L ++ [].flatten) := h13
      rw [List.flatten_nil, List.append_nil] at h13
      obtain ⟨A13, c13, rfl, hc13, hR13, hB13⟩ := h13.block
      replace mb0 := mb0.below hn mb0.lt
      replace hb0 := hb0.trans (hn.mono hb0.size)

      refine hK _ _ (fun _ _ => hb0) ?_
      clear hK K hn h13
      repeat (refine mix_pure rfl rfl (fun K hK => ?_); go_simp; refine hK _ ?_; clear hK K)
      refine mix_eff rfl rfl (fun K hK => ?_)
      go_simp
      have hn : Below x1.heap.size x1 (x1.alloc (.cells #[.int .i64 0, .int .i64 0, .int .u64 0, .slice none 0 0] 57)) := (Below.refl _ _).alloc (Nat.le_refl _) _
      have mbG := Blk.new x1 #[.int .i64 0, .int .i64 0, .int .u64 0, .slice none 0 0] 57
      have hGlt : w.heap.size < x1.heap.size := mb0.lt
      replace mb0 := mb0.below hn mb0.lt
      replace hb0 := hb0.trans (hn.mono hb0.size)
      have hne : ∀ a, A13 = some a → a.block ≠ x1.heap.size := fun a ha => by have := (hB13 a ha).2; omega
      replace hR13 := hR13.below hn
      refine hK _ _ (fun _ _ => hb0) ?_
      generalize x1.alloc (.cells #[.int .i64 0, .int .i64 0, .int .u64 0, .slice none 0 0] 57) = xe at *
      clear hK K hn
      generalize x1.heap.size = G at *
      have hGn : G < xe.heap.size := mbG.lt
      repeat (refine mix_pure rfl rfl (fun K hK => ?_); go_simp; refine hK _ ?_; clear hK K)
      refine mix_eff rfl rfl (fun K hK => ?_)
      refine step_store_row rfl 57 _ _ rfl _ _ rfl rfl 57 _ mbG (by exact gsize_up) (by simp) (by simp [Value.oneCell']) ?_
      have hub : Upd G xe (xe.setRow G #[.int .i64 (wb cb), .int .i64 (wb sb), .int .u64 (wb R), .slice A13 L.length c13]) := (Upd.refl _ xe).setRow _
      replace mbG := mbG.row #[.int .i64 (wb cb), .int .i64 (wb sb), .int .u64 (wb R), .slice A13 L.length c13]
      replace mb0 := mb0.upd hub (by omega)
      replace hb0 := below_setRow hb0 (Nat.le_of_lt hGlt) #[.int .i64 (wb cb), .int .i64 (wb sb), .int .u64 (wb R), .slice A13 L.length c13]
      replace hR13 := hR13.upd hub hne
      refine hK _ _ (fun _ _ => hb0) ?_
      generalize xe.setRow G #[.int .i64 (wb cb), .int .i64 (wb sb), .int .u64 (wb R), .slice A13 L.length c13] = xf at *
      clear hK K hub
      repeat (refine mix_pure rfl rfl (fun K hK => ?_); go_simp; refine hK _ ?_; clear hK K)
      refine mix_nil ?_
      clear hcell1 hcell2 hs1 hs2
      have hc0 := below_cell hb0 hcell0
      have HC0 := Lib.hid hcell0
      have k0 : xf.cell? ⟨G, 0, none⟩ = some (.int .i64 (wb cb)) := mbG.cell 0
      have k1 : xf.cell? ⟨G, 1, none⟩ = some (.int .i64 (wb sb)) := mbG.cell 1
      have k2 : xf.cell? ⟨G, 2, none⟩ = some (.int .u64 (wb R)) := mbG.cell 2
      have k3 : xf.cell? ⟨G, 3, none⟩ = some (.slice A13 L.length c13) := mbG.cell 3
      clear hcell0
      cases hq : ((wb kb : Int) == 2) with
      | true =>
        go_wp2_with fail
        refine mix_start (fun w' => (w'.cell? ⟨G, 0, none⟩ = some (.int .i64 (wb cb)) ∧ w'.cell? ⟨G, 1, none⟩ = some (.int .i64 (wb sb)) ∧ w'.cell? ⟨G, 2, none⟩ = some (.int .u64 (wb R)) ∧ w'.cell? ⟨G, 3, none⟩ = some (.slice A13 L.length c13)) ∧ w'.cell? ⟨g0, off, none⟩ = some (.int .u8 (wb kb))) (List.range 16) [12, 14] [0, 3, 7, 9, 11] [] (by kernel_rfl) (by kernel_rfl) (fun d _ _ _ _ h => by cases d <;> exact h) ⟨⟨k0, k1, k2, k3⟩, hc0⟩ ?_
        replace mb0 := mb0.drew
        replace mbG := mbG.drew
        replace hb0 := hb0.drew
        replace hR13 : Rd xf.drew .u8 A13 L := hR13
        clear k0 k1 k2 k3 hc0
        generalize xf.drew = y0 at *
        repeat (refine mix_pure rfl rfl (fun K hK => ?_); go_simp; refine hK _ ?_; clear hK K)
        refine mix_read (.agg #[.int .i64 (wb cb), .int .i64 (wb sb), .int .u64 (wb R), .slice A13 L.length c13]) rfl rfl rfl rfl (fun w' hS => ?_) ?_
        · obtain ⟨⟨k0, k1, k2, k3⟩, -⟩ := hS
          go_simp
        repeat (refine mix_pure rfl rfl (fun K hK => ?_); go_simp; refine hK _ ?_; clear hK K)
        refine mix_read (.int .u8 (wb kb)) rfl rfl rfl rfl (fun w' hS => ?_) ?_
        · have k5 := hS.2
          go_simp
        repeat (refine mix_pure rfl rfl (fun K hK => ?_); go_simp; refine hK _ ?_; clear hK K)
        rw [hq] at HOK
        repeat (refine mix_pure rfl rfl (fun K hK => ?_); go_simp; refine hK _ ?_; clear hK K)
        refine mix_read (.int .i64 (wb cb)) rfl rfl rfl rfl (fun w' hS => ?_) ?_
        · have k5 := hS.1.1
          go_simp
        repeat (refine mix_pure rfl rfl (fun K hK => ?_); go_simp; refine hK _ ?_; clear hK K)
        refine mix_read (.int .i64 (wb sb)) rfl rfl rfl rfl (fun w' hS => ?_) ?_
        · have k5 := hS.1.2.1
          go_simp
        repeat (refine mix_pure rfl rfl (fun K hK => ?_); go_simp; refine hK _ ?_; clear hK K)
        refine mix_read (.int .u64 (wb R)) rfl rfl rfl rfl (fun w' hS => ?_) ?_
        · have k5 := hS.1.2.2.1
          go_simp
        refine mix_eff rfl rfl (fun K hK => ?_)
        go_simp
        refine (HK.out y0).mono ?_
        rintro e w' ⟨rfl, rfl⟩
        refine hK _ _ (fun _ h => h) ?_
        clear hK K
        rw [show endsB (wb cb) (wb sb) R = OK from HOK.out]
        repeat (refine mix_pure rfl rfl (fun K hK => ?_); go_simp; refine hK _ ?_; clear hK K)
        refine mix_eff rfl rfl (fun K hK => ?_)
        refine step_store_row rfl 57 _ _ rfl _ _ rfl rfl 57 _ mb0 (by exact gsize_up) (by simp) (by simp [Value.oneCell']) ?_
        have hub : Upd w.heap.size y0 (y0.setRow w.heap.size #[.int .i64 (wb cb), .int .i64 (wb sb), .int .u64 (wb R), .slice A13 L.length c13]) := (Upd.refl _ y0).setRow _
        have mbG1 := mbG.upd hub (by omega)
        have mb1 := mb0.row #[.int .i64 (wb cb), .int .i64 (wb sb), .int .u64 (wb R), .slice A13 L.length c13]
        have hb1 := below_setRow hb0 (Nat.le_refl _) #[.int .i64 (wb cb), .int .i64 (wb sb), .int .u64 (wb R), .slice A13 L.length c13]
        have hR14 := hR13.upd hub (fun a ha => by have := (hB13 a ha).1; omega)
        refine hK _ _ (fun _ _ => ⟨⟨mbG1.cell 0, mbG1.cell 1, mbG1.cell 2, mbG1.cell 3⟩, below_cell hb1 HC0.out⟩) ?_
        generalize y0.setRow w.heap.size #[.int .i64 (wb cb), .int .i64 (wb sb), .int .u64 (wb R), .slice A13 L.length c13] = y1 at *
        clear hK K hub mb0 hb0 hR13 mbG
        repeat (refine mix_pure rfl rfl (fun K hK => ?_); go_simp; refine hK _ ?_; clear hK K)
        refine mix_nil ?_
        go_wp2_with fail
        refine bodyPost_ret (v := .tuple #[.agg #[.int .i64 (wb cb), .int .i64 (wb sb), .int .u64 (wb R), .slice A13 L.length c13], .bool OK]) (results_cell_tmp rfl _ _ _ _ _ _ _ _ rfl rfl mb1 Try.underlying57 rfl (by exact gsize_up)) rfl ?_
        exact HPOST.out _ _ ⟨A13, c13, rfl, hc13, hR14⟩ hb1
      | false =>
        go_wp2_with fail
        refine mix_start (fun w' => (w'.cell? ⟨G, 0, none⟩ = some (.int .i64 (wb cb)) ∧ w'.cell? ⟨G, 1, none⟩ = some (.int .i64 (wb sb)) ∧ w'.cell? ⟨G, 2, none⟩ = some (.int .u64 (wb R)) ∧ w'.cell? ⟨G, 3, none⟩ = some (.slice A13 L.length c13)) ∧ w'.cell? ⟨g0, off, none⟩ = some (.int .u8 (wb kb))) (List.range 16) [12, 14] [0, 3, 7, 9, 11] [] (by kernel_rfl) (by kernel_rfl) (fun d _ _ _ _ h => by cases d <;> exact h) ⟨⟨k0, k1, k2, k3⟩, hc0⟩ ?_
        replace mb0 := mb0.drew
        replace mbG := mbG.drew
        replace hb0 := hb0.drew
        replace hR13 : Rd xf.drew .u8 A13 L := hR13
        clear k0 k1 k2 k3 hc0
        generalize xf.drew = y0 at *
        repeat (refine mix_pure rfl rfl (fun K hK => ?_); go_simp; refine hK _ ?_; clear hK K)
        refine mix_read (.agg #[.int .i64 (wb cb), .int .i64 (wb sb), .int .u64 (wb R), .slice A13 L.length c13]) rfl rfl rfl rfl (fun w' hS => ?_) ?_
        · obtain ⟨⟨k0, k1, k2, k3⟩, -⟩ := hS
          go_simp
        repeat (refine mix_pure rfl rfl (fun K hK => ?_); go_simp; refine hK _ ?_; clear hK K)
        refine mix_read (.int .u8 (wb kb)) rfl rfl rfl rfl (fun w' hS => ?_) ?_
        · have k5 := hS.2
          go_simp
        repeat (refine mix_pure rfl rfl (fun K hK => ?_); go_simp; refine hK _ ?_; clear hK K)
        rw [hq] at HOK
        have hOK : OK = false := by have := HOK.out; simpa using this.symm
        replace hOK := Lib.hid hOK
        refine mix_skip rfl (by kernel_rfl) ?_
        repeat (refine mix_pure rfl rfl (fun K hK => ?_); go_simp; refine hK _ ?_; clear hK K)
        refine mix_eff rfl rfl (fun K hK => ?_)
        refine step_store_row rfl 57 _ _ rfl _ _ rfl rfl 57 _ mb0 (by exact gsize_up) (by simp) (by simp [Value.oneCell']) ?_
        have hub : Upd w.heap.size y0 (y0.setRow w.heap.size #[.int .i64 (wb cb), .int .i64 (wb sb), .int .u64 (wb R), .slice A13 L.length c13]) := (Upd.refl _ y0).setRow _
        have mbG1 := mbG.upd hub (by omega)
        have mb1 := mb0.row #[.int .i64 (wb cb), .int .i64 (wb sb), .int .u64 (wb R), .slice A13 L.length c13]
        have hb1 := below_setRow hb0 (Nat.le_refl _) #[.int .i64 (wb cb), .int .i64 (wb sb), .int .u64 (wb R), .slice A13 L.length c13]
        have hR14 := hR13.upd hub (fun a ha => by have := (hB13 a ha).1; omega)
        refine hK _ _ (fun _ _ => ⟨⟨mbG1.cell 0, mbG1.cell 1, mbG1.cell 2, mbG1.cell 3⟩, below_cell hb1 HC0.out⟩) ?_
        generalize y0.setRow w.heap.size #[.int .i64 (wb cb), .int .i64 (wb sb), .int .u64 (wb R), .slice A13 L.length c13] = y1 at *
        clear hK K hub mb0 hb0 hR13 mbG
        repeat (refine mix_pure rfl rfl (fun K hK => ?_); go_simp; refine hK _ ?_; clear hK K)
        refine mix_nil ?_
        go_wp2_with fail
        refine bodyPost_ret (v := .tuple #[.agg #[.int .i64 (wb cb), .int .i64 (wb sb), .int .u64 (wb R), .slice A13 L.length c13], .bool false]) (results_cell_tmp rfl _ _ _ _ _ _ _ _ rfl rfl mb1 Try.underlying57 rfl (by exact gsize_up)) rfl ?_
        have hp := HPOST.out _ _ ⟨A13, c13, rfl, hc13, hR14⟩ hb1
        rw [hOK.out] at hp
        exact hp
    · go_simp
      have hn : Below x0.heap.size x0 (x0.alloc (.cells #[.int .i64 0, .int .i64 0, .int .u64 0, .slice none 0 0] 57)) := (Below.refl _ _).alloc (Nat.le_refl _) _
      have mbG := Blk.new x0 #[.int .i64 0, .int .i64 0, .int .u64 0, .slice none 0 0] 57
      have hGlt : w.heap.size < x0.heap.size := mb0.lt
      replace mb0 := mb0.below hn mb0.lt
      replace hb0 := hb0.trans (hn.mono hb0.size)

      refine hK _ _ (fun _ _ => hb0) ?_
      generalize x0.alloc (.cells #[.int .i64 0, .int .i64 0, .int .u64 0, .slice none 0 0] 57) = x1 at *
      clear hK K hn
      generalize x0.heap.size = G at *
      have hGn : G < x1.heap.size := mbG.lt
      repeat (refine mix_pure rfl rfl (fun K hK => ?_); go_simp; refine hK _ ?_; clear hK K)
      refine mix_eff rfl rfl (fun K hK => ?_)
      go_simp
      refine (rboth14_any L _ [] none 0 x1 (HA11.out.below hb0) (Args.nil0 _) (by simpa using HL11.out) (by simp)).mono ?_
      rintro e xe ⟨u13, rfl, h13, hn⟩
      replace h13 : OwnB xe x1.heap.size u13 (L ++ [].flatten) := h13
      rw [List.flatten_nil, List.append_nil] at h13
      obtain ⟨A13, c13, rfl, hc13, hR13, hB13⟩ := h13.block
      replace mb0 := mb0.below hn mb0.lt
      replace hb0 := hb0.trans (hn.mono hb0.size)
      have hne : ∀ a, A13 = some a → a.block ≠ G := fun a ha => by have := (hB13 a ha).1; have := mbG.lt; omega
      replace mbG := mbG.below hn mbG.lt
      refine hK _ _ (fun _ _ => hb0) ?_
      clear hK K hn h13
      repeat (refine mix_pure rfl rfl (fun K hK => ?_); go_simp; refine hK _ ?_; clear hK K)
      refine mix_eff rfl rfl (fun K hK => ?_)
      refine step_store_row rfl 57 _ _ rfl _ _ rfl rfl 57 _ mbG (by exact gsize_up) (by simp) (by simp [Value.oneCell']) ?_
      have hub : Upd G xe (xe.setRow G #[.int .i64 (wb cb), .int .i64 (wb sb), .int .u64 (wb R), .slice A13 L.length c13]) := (Upd.refl _ xe).setRow _
      replace mbG := mbG.row #[.int .i64 (wb cb), .int .i64 (wb sb), .int .u64 (wb R), .slice A13 L.length c13]
      replace mb0 := mb0.upd hub (by omega)
      replace hb0 := below_setRow hb0 (Nat.le_of_lt hGlt) #[.int .i64 (wb cb), .int .i64 (wb sb), .int .u64 (wb R), .slice A13 L.length c13]
      replace hR13 := hR13.upd hub hne
      refine hK _ _ (fun _ _ => hb0) ?_
      generalize xe.setRow G #[.int .i64 (wb cb), .int .i64 (wb sb), .int .u64 (wb R), .slice A13 L.length c13] = xf at *
      clear hK K hub
      repeat (refine mix_pure rfl rfl (fun K hK => ?_); go_simp; refine hK _ ?_; clear hK K)
      refine mix_nil ?_
      clear hcell1 hcell2 hs1 hs2
      have hc0 := below_cell hb0 hcell0
      have HC0 := Lib.hid hcell0
      have k0 : xf.cell? ⟨G, 0, none⟩ = some (.int .i64 (wb cb)) := mbG.cell 0
      have k1 : xf.cell? ⟨G, 1, none⟩ = some (.int .i64 (wb sb)) := mbG.cell 1
      have k2 : xf.cell? ⟨G, 2, none⟩ = some (.int .u64 (wb R)) := mbG.cell 2
      have k3 : xf.cell? ⟨G, 3, none⟩ = some (.slice A13 L.length c13) := mbG.cell 3
      clear hcell0
      cases hq : ((wb kb : Int) == 2) with
      | true =>
        go_wp2_with fail
        refine mix_start (fun w' => (w'.cell? ⟨G, 0, none⟩ = some (.int .i64 (wb cb)) ∧ w'.cell? ⟨G, 1, none⟩ = some (.int .i64 (wb sb)) ∧ w'.cell? ⟨G, 2, none⟩ = some (.int .u64 (wb R)) ∧ w'.cell? ⟨G, 3, none⟩ = some (.slice A13 L.length c13)) ∧ w'.cell? ⟨g0, off, none⟩ = some (.int .u8 (wb kb))) (List.range 16) [12, 14] [0, 3, 7, 9, 11] [] (by kernel_rfl) (by kernel_rfl) (fun d _ _ _ _ h => by cases d <;> exact h) ⟨⟨k0, k1, k2, k3⟩, hc0⟩ ?_
        replace mb0 := mb0.drew
        replace mbG := mbG.drew
        replace hb0 := hb0.drew
        replace hR13 : Rd xf.drew .u8 A13 L := hR13
        clear k0 k1 k2 k3 hc0
        generalize xf.drew = y0 at *
        repeat (refine mix_pure rfl rfl (fun K hK => ?_); go_simp; refine hK _ ?_; clear hK K)
        refine mix_read (.agg #[.int .i64 (wb cb), .int .i64 (wb sb), .int .u64 (wb R), .slice A13 L.length c13]) rfl rfl rfl rfl (fun w' hS => ?_) ?_
        · obtain ⟨⟨k0, k1, k2, k3⟩, -⟩ := hS
          go_simp
        repeat (refine mix_pure rfl rfl (fun K hK => ?_); go_simp; refine hK _ ?_; clear hK K)
        refine mix_read (.int .u8 (wb kb)) rfl rfl rfl rfl (fun w' hS => ?_) ?_
        · have k5 := hS.2
          go_simp
        repeat (refine mix_pure rfl rfl (fun K hK => ?_); go_simp; refine hK _ ?_; clear hK K)
        rw [hq] at HOK
        repeat (refine mix_pure rfl rfl (fun K hK => ?_); go_simp; refine hK _ ?_; clear hK K)
        refine mix_read (.int .i64 (wb cb)) rfl rfl rfl rfl (fun w' hS => ?_) ?_
        · have k5 := hS.1.1
          go_simp
        repeat (refine mix_pure rfl rfl (fun K hK => ?_); go_simp; refine hK _ ?_; clear hK K)
        refine mix_read (.int .i64 (wb sb)) rfl rfl rfl rfl (fun w' hS => ?_) ?_
        · have k5 := hS.1.2.1
          go_simp
        repeat (refine mix_pure rfl rfl (fun K hK => ?_); go_simp; refine hK _ ?_; clear hK K)
        refine mix_read (.int .u64 (wb R)) rfl rfl rfl rfl (fun w' hS => ?_) ?_
        · have k5 := hS.1.2.2.1
          go_simp
        refine mix_eff rfl rfl (fun K hK => ?_)
        go_simp
        refine (HK.out y0).mono ?_
        rintro e w' ⟨rfl, rfl⟩
        refine hK _ _ (fun _ h => h) ?_
        clear hK K
        rw [show endsB (wb cb) (wb sb) R = OK from HOK.out]
        repeat (refine mix_pure rfl rfl (fun K hK => ?_); go_simp; refine hK _ ?_; clear hK K)
        refine mix_eff rfl rfl (fun K hK => ?_)
        refine step_store_row rfl 57 _ _ rfl _ _ rfl rfl 57 _ mb0 (by exact gsize_up) (by simp) (by simp [Value.oneCell']) ?_
        have hub : Upd w.heap.size y0 (y0.setRow w.heap.size #[.int .i64 (wb cb), .int .i64 (wb sb), .int .u64 (wb R), .slice A13 L.length c13]) := (Upd.refl _ y0).setRow _
        have mbG1 := mbG.upd hub (by omega)
        have mb1 := mb0.row #[.int .i64 (wb cb), .int .i64 (wb sb), .int .u64 (wb R), .slice A13 L.length c13]
        have hb1 := below_setRow hb0 (Nat.le_refl _) #[.int .i64 (wb cb), .int .i64 (wb sb), .int .u64 (wb R), .slice A13 L.length c13]
        have hR14 := hR13.upd hub (fun a ha => by have := (hB13 a ha).1; omega)
        refine hK _ _ (fun _ _ => ⟨⟨mbG1.cell 0, mbG1.cell 1, mbG1.cell 2, mbG1.cell 3⟩, below_cell hb1 HC0.out⟩) ?_
        generalize y0.setRow w.heap.size #[.int .i64 (wb cb), .int .i64 (wb sb), .int .u64 (wb R), .slice A13 L.length c13] = y1 at *
        clear hK K hub mb0 hb0 hR13 mbG
        repeat (refine mix_pure rfl rfl (fun K hK => ?_); go_simp; refine hK _ ?_; clear hK K)
        refine mix_nil ?_
        go_wp2_with fail
        refine bodyPost_ret (v := .tuple #[.agg #[.int .i64 (wb cb), .int .i64 (wb sb), .int .u64 (wb R), .slice A13 L.length c13], .bool OK]) (results_cell_tmp rfl _ _ _ _ _ _ _ _ rfl rfl mb1 Try.underlying57 rfl (by exact gsize_up)) rfl ?_
        exact HPOST.out _ _ ⟨A13, c13, rfl, hc13, hR14⟩ hb1
      | false =>
        go_wp2_with fail
        refine mix_start (fun w' => (w'.cell? ⟨G, 0, none⟩ = some (.int .i64 (wb cb)) ∧ w'.cell? ⟨G, 1, none⟩ = some (.int .i64 (wb sb)) ∧ w'.cell? ⟨G, 2, none⟩ = some (.int .u64 (wb R)) ∧ w'.cell? ⟨G, 3, none⟩ = some (.slice A13 L.length c13)) ∧ w'.cell? ⟨g0, off, none⟩ = some (.int .u8 (wb kb))) (List.range 16) [12, 14] [0, 3, 7, 9, 11] [] (by kernel_rfl) (by kernel_rfl) (fun d _ _ _ _ h => by cases d <;> exact h) ⟨⟨k0, k1, k2, k3⟩, hc0⟩ ?_
        replace mb0 := mb0.drew
        replace mbG := mbG.drew
        replace hb0 := hb0.drew
        replace hR13 : Rd xf.drew .u8 A13 L := hR13
        clear k0 k1 k2 k3 hc0
        generalize xf.drew = y0 at *
        repeat (refine mix_pure rfl rfl (fun K hK => ?_); go_simp; refine hK _ ?_; clear hK K)
        refine mix_read (.agg #[.int .i64 (wb cb), .int .i64 (wb sb), .int .u64 (wb R), .slice A13 L.length c13]) rfl rfl rfl rfl (fun w' hS => ?_) ?_
        · obtain ⟨⟨k0, k1, k2, k3⟩, -⟩ := hS
          go_simp
        repeat (refine mix_pure rfl rfl (fun K hK => ?_); go_simp; refine hK _ ?_; clear hK K)
        refine mix_read (.int .u8 (wb kb)) rfl rfl rfl rfl (fun w' hS => ?_) ?_
        · have k5 := hS.2
          go_simp
        repeat (refine mix_pure rfl rfl (fun K hK => ?_); go_simp; refine hK _ ?_; clear hK K)
        rw [hq] at HOK
        have hOK : OK = false := by have := HOK.out; simpa using this.symm
        replace hOK := Lib.hid hOK
        refine mix_skip rfl (by kernel_rfl) ?_
        repeat (refine mix_pure rfl rfl (fun K hK => ?_); go_simp; refine hK _ ?_; clear hK K)
        refine mix_eff rfl rfl (fun K hK => ?_)
        refine step_store_row rfl 57 _ _ rfl _ _ rfl rfl 57 _ mb0 (by exact gsize_up) (by simp) (by simp [Value.oneCell']) ?_
        have hub : Upd w.heap.size y0 (y0.setRow w.heap.size #[.int .i64 (wb cb), .int .i64 (wb sb), .int .u64 (wb R), .slice A13 L.length c13]) := (Upd.refl _ y0).setRow _
        have mbG1 := mbG.upd hub (by omega)
        have mb1 := mb0.row #[.int .i64 (wb cb), .int .i64 (wb sb), .int .u64 (wb R), .slice A13 L.length c13]
        have hb1 := below_setRow hb0 (Nat.le_refl _) #[.int .i64 (wb cb), .int .i64 (wb sb), .int .u64 (wb R), .slice A13 L.length c13]
        have hR14 := hR13.upd hub (fun a ha => by have := (hB13 a ha).1; omega)
        refine hK _ _ (fun _ _ => ⟨⟨mbG1.cell 0, mbG1.cell 1, mbG1.cell 2, mbG1.cell 3⟩, below_cell hb1 HC0.out⟩) ?_
        generalize y0.setRow w.heap.size #[.int .i64 (wb cb), .int .i64 (wb sb), .int .u64 (wb R), .slice A13 L.length c13] = y1 at *
        clear hK K hub mb0 hb0 hR13 mbG
        repeat (refine mix_pure rfl rfl (fun K hK => ?_); go_simp; refine hK _ ?_; clear hK K)
        refine mix_nil ?_
        go_wp2_with fail
        refine bodyPost_ret (v := .tuple #[.agg #[.int .i64 (wb cb), .int .i64 (wb sb), .int .u64 (wb R), .slice A13 L.length c13], .bool false]) (results_cell_tmp rfl _ _ _ _ _ _ _ _ rfl rfl mb1 Try.underlying57 rfl (by exact gsize_up)) rfl ?_
        have hp := HPOST.out _ _ ⟨A13, c13, rfl, hc13, hR14⟩ hb1
        rw [hOK.out] at hp
        exact hp
  · go_simp
    have hn : Below x0.heap.size x0 (x0.alloc (.cells #[.int .i64 0, .int .i64 0, .int .u64 0, .slice none 0 0] 57)) := (Below.refl _ _).alloc (Nat.le_refl _) _
    have mbG := Blk.new x0 #[.int .i64 0, .int .i64 0, .int .u64 0, .slice none 0 0] 57
    have hGlt : w.heap.size < x0.heap.size := mb0.lt
    replace mb0 := mb0.below hn mb0.lt
    replace hb0 := hb0.trans (hn.mono hb0.size)

    refine hK _ _ (fun _ _ => hb0) ?_
    generalize x0.alloc (.cells #[.int .i64 0, .int .i64 0, .int .u64 0, .slice none 0 0] 57) = x1 at *
    clear hK K hn
    generalize x0.heap.size = G at *
    have hGn : G < x1.heap.size := mbG.lt
    repeat (refine mix_pure rfl rfl (fun K hK => ?_); go_simp; refine hK _ ?_; clear hK K)
    refine mix_eff rfl rfl (fun K hK => ?_)
    go_simp
    refine (rnum14_v (HA3.out.below hb0) (by rw [HL3.out]; omega)).mono ?_
    rintro e w' ⟨rfl, rfl⟩
    refine hK _ _ (fun _ h => h) ?_
    clear hK K
    repeat (refine mix_pure rfl rfl (fun K hK => ?_); go_simp; refine hK _ ?_; clear hK K)
    rw [HN.out]
    refine mix_eff rfl rfl (fun K hK => ?_)
    go_simp
    refine (rboth14_any L _ [] none 0 x1 (HA11.out.below hb0) (Args.nil0 _) (by simpa using HL11.out) (by simp)).mono ?_
    rintro e xe ⟨u13, rfl, h13, hn⟩
    replace h13 : OwnB xe x1.heap.size u13 (L ++ [].flatten) := h13
    rw [List.flatten_nil, List.append_nil] at h13
    obtain ⟨A13, c13, rfl, hc13, hR13, hB13⟩ := h13.block
    replace mb0 := mb0.below hn mb0.lt
    replace hb0 := hb0.trans (hn.mono hb0.size)
    have hne : ∀ a, A13 = some a → a.block ≠ G := fun a ha => by have := (hB13 a ha).1; have := mbG.lt; omega
    replace mbG := mbG.below hn mbG.lt
    refine hK _ _ (fun _ _ => hb0) ?_
    clear hK K hn h13
    repeat (refine mix_pure rfl rfl (fun K hK => ?_); go_simp; refine hK _ ?_; clear hK K)
    refine mix_eff rfl rfl (fun K hK => ?_)
    refine step_store_row rfl 57 _ _ rfl _ _ rfl rfl 57 _ mbG (by exact gsize_up) (by simp) (by simp [Value.oneCell']) ?_
    have hub : Upd G xe (xe.setRow G #[.int .i64 (wb cb), .int .i64 (wb sb), .int .u64 (wb R), .slice A13 L.length c13]) := (Upd.refl _ xe).setRow _
    replace mbG := mbG.row #[.int .i64 (wb cb), .int .i64 (wb sb), .int .u64 (wb R), .slice A13 L.length c13]
    replace mb0 := mb0.upd hub (by omega)
    replace hb0 := below_setRow hb0 (Nat.le_of_lt hGlt) #[.int .i64 (wb cb), .int .i64 (wb sb), .int .u64 (wb R), .slice A13 L.length c13]
    replace hR13 := hR13.upd hub hne
    refine hK _ _ (fun _ _ => hb0) ?_
    generalize xe.setRow G #[.int .i64 (wb cb), .int .i64 (wb sb), .int .u64 (wb R), .slice A13 L.length c13] = xf at *
    clear hK K hub
    repeat (refine mix_pure rfl rfl (fun K hK => ?_); go_simp; refine hK _ ?_; clear hK K)
    refine mix_nil ?_
    clear hcell1 hcell2 hs1 hs2
    have hc0 := below_cell hb0 hcell0
    have HC0 := Lib.hid hcell0
    have k0 : xf.cell? ⟨G, 0, none⟩ = some (.int .i64 (wb cb)) := mbG.cell 0
    have k1 : xf.cell? ⟨G, 1, none⟩ = some (.int .i64 (wb sb)) := mbG.cell 1
    have k2 : xf.cell? ⟨G, 2, none⟩ = some (.int .u64 (wb R)) := mbG.cell 2
    have k3 : xf.cell? ⟨G, 3, none⟩ = some (.slice A13 L.length c13) := mbG.cell 3
    clear hcell0
    cases hq : ((wb kb : Int) == 2) with
    | true =>
      go_wp2_with fail
      refine mix_start (fun w' => (w'.cell? ⟨G, 0, none⟩ = some (.int .i64 (wb cb)) ∧ w'.cell? ⟨G, 1, none⟩ = some (.int .i64 (wb sb)) ∧ w'.cell? ⟨G, 2, none⟩ = some (.int .u64 (wb R)) ∧ w'.cell? ⟨G, 3, none⟩ = some (.slice A13 L.length c13)) ∧ w'.cell? ⟨g0, off, none⟩ = some (.int .u8 (wb kb))) (List.range 16) [12, 14] [0, 3, 7, 9, 11] [] (by kernel_rfl) (by kernel_rfl) (fun d _ _ _ _ h => by cases d <;> exact h) ⟨⟨k0, k1, k2, k3⟩, hc0⟩ ?_
      replace mb0 := mb0.drew
      replace mbG := mbG.drew
      replace hb0 := hb0.drew
      replace hR13 : Rd xf.drew .u8 A13 L := hR13
      clear k0 k1 k2 k3 hc0
      generalize xf.drew = y0 at *
      repeat (refine mix_pure rfl rfl (fun K hK => ?_); go_simp; refine hK _ ?_; clear hK K)
      refine mix_read (.agg #[.int .i64 (wb cb), .int .i64 (wb sb), .int .u64 (wb R), .slice A13 L.length c13]) rfl rfl rfl rfl (fun w' hS => ?_) ?_
      · obtain ⟨⟨k0, k1, k2, k3⟩, -⟩ := hS
        go_simp
      repeat (refine mix_pure rfl rfl (fun K hK => ?_); go_simp; refine hK _ ?_; clear hK K)
      refine mix_read (.int .u8 (wb kb)) rfl rfl rfl rfl (fun w' hS => ?_) ?_
      · have k5 := hS.2
        go_simp
      repeat (refine mix_pure rfl rfl (fun K hK => ?_); go_simp; refine hK _ ?_; clear hK K)
      rw [hq] at HOK
      repeat (refine mix_pure rfl rfl (fun K hK => ?_); go_simp; refine hK _ ?_; clear hK K)
      refine mix_read (.int .i64 (wb cb)) rfl rfl rfl rfl (fun w' hS => ?_) ?_
      · have k5 := hS.1.1
        go_simp
      repeat (refine mix_pure rfl rfl (fun K hK => ?_); go_simp; refine hK _ ?_; clear hK K)
      refine mix_read (.int .i64 (wb sb)) rfl rfl rfl rfl (fun w' hS => ?_) ?_
      · have k5 := hS.1.2.1
        go_simp
      repeat (refine mix_pure rfl rfl (fun K hK => ?_); go_simp; refine hK _ ?_; clear hK K)
      refine mix_read (.int .u64 (wb R)) rfl rfl rfl rfl (fun w' hS => ?_) ?_
      · have k5 := hS.1.2.2.1
        go_simp
      refine mix_eff rfl rfl (fun K hK => ?_)
      go_simp
      refine (HK.out y0).mono ?_
      rintro e w' ⟨rfl, rfl⟩
      refine hK _ _ (fun _ h => h) ?_
      clear hK K
      rw [show endsB (wb cb) (wb sb) R = OK from HOK.out]
      repeat (refine mix_pure rfl rfl (fun K hK => ?_); go_simp; refine hK _ ?_; clear hK K)
      refine mix_eff rfl rfl (fun K hK => ?_)
      refine step_store_row rfl 57 _ _ rfl _ _ rfl rfl 57 _ mb0 (by exact gsize_up) (by simp) (by simp [Value.oneCell']) ?_
      have hub : Upd w.heap.size y0 (y0.setRow w.heap.size #[.int .i64 (wb cb), .int .i64 (wb sb), .int .u64 (wb R), .slice A13 L.length c13]) := (Upd.refl _ y0).setRow _
      have mbG1 := mbG.upd hub (by omega)
      have mb1 := mb0.row #[.int .i64 (wb cb), .int .i64 (wb sb), .int .u64 (wb R), .slice A13 L.length c13]
      have hb1 := below_setRow hb0 (Nat.le_refl _) #[.int .i64 (wb cb), .int .i64 (wb sb), .int .u64 (wb R), .slice A13 L.length c13]
      have hR14 := hR13.upd hub (fun a ha => by have := (hB13 a ha).1; omega)
      refine hK _ _ (fun _ _ => ⟨⟨mbG1.cell 0, mbG1.cell 1, mbG1.cell 2, mbG1.cell 3⟩, below_cell hb1 HC0.out⟩) ?_
      generalize y0.setRow w.heap.size #[.int .i64 (wb cb), .int .i64 (wb sb), .int .u64 (wb R), .slice A13 L.length c13] = y1 at *
      clear hK K hub mb0 hb0 hR13 mbG
      repeat (refine mix_pure rfl rfl (fun K hK => ?_); go_simp; refine hK _ ?_; clear hK K)
      refine mix_nil ?_
      go_wp2_with fail
      refine bodyPost_ret (v := .tuple #[.agg #[.int .i64 (wb cb), .int .i64 (wb sb), .int .u64 (wb R), .slice A13 L.length c13], .bool OK]) (results_cell_tmp rfl _ _ _ _ _ _ _ _ rfl rfl mb1 Try.underlying57 rfl (by exact gsize_up)) rfl ?_
      exact HPOST.out _ _ ⟨A13, c13, rfl, hc13, hR14⟩ hb1
    | false =>
      go_wp2_with fail
      refine mix_start (fun w' => (w'.cell? ⟨G, 0, none⟩ = some (.int .i64 (wb cb)) ∧ w'.cell? ⟨G, 1, none⟩ = some (.int .i64 (wb sb)) ∧ w'.cell? ⟨G, 2, none⟩ = some (.int .u64 (wb R)) ∧ w'.cell? ⟨G, 3, none⟩ = some (.slice A13 L.length c13)) ∧ w'.cell? ⟨g0, off, none⟩ = some (.int .u8 (wb kb))) (List.range 16) [12, 14] [0, 3, 7, 9, 11] [] (by kernel_rfl) (by kernel_rfl) (fun d _ _ _ _ h => by cases d <;> exact h) ⟨⟨k0, k1, k2, k3⟩, hc0⟩ ?_
      replace mb0 := mb0.drew
      replace mbG := mbG.drew
      replace hb0 := hb0.drew
      replace hR13 : Rd xf.drew .u8 A13 L := hR13
      clear k0 k1 k2 k3 hc0
      generalize xf.drew = y0 at *
      repeat (refine mix_pure rfl rfl (fun K hK => ?_); go_simp; refine hK _ ?_; clear hK K)
      refine mix_read (.agg #[.int .i64 (wb cb), .int .i64 (wb sb), .int .u64 (wb R), .slice A13 L.length c13]) rfl rfl rfl rfl (fun w' hS => ?_) ?_
      · obtain ⟨⟨k0, k1, k2, k3⟩, -⟩ := hS
        go_simp
      repeat (refine mix_pure rfl rfl (fun K hK => ?_); go_simp; refine hK _ ?_; clear hK K)
      refine mix_read (.int .u8 (wb kb)) rfl rfl rfl rfl (fun w' hS => ?_) ?_
      · have k5 := hS.2
        go_simp
      repeat (refine mix_pure rfl rfl (fun K hK => ?_); go_simp; refine hK _ ?_; clear hK K)
      rw [hq] at HOK
      have hOK : OK = false := by have := HOK.out; simpa using this.symm
      replace hOK := Lib.hid hOK
      refine mix_skip rfl (by kernel_rfl) ?_
      repeat (refine mix_pure rfl rfl (fun K hK => ?_); go_simp; refine hK _ ?_; clear hK K)
      refine mix_eff rfl rfl (fun K hK => ?_)
      refine step_store_row rfl 57 _ _ rfl _ _ rfl rfl 57 _ mb0 (by exact gsize_up) (by simp) (by simp [Value.oneCell']) ?_
      have hub : Upd w.heap.size y0 (y0.setRow w.heap.size #[.int .i64 (wb cb), .int .i64 (wb sb), .int .u64 (wb R), .slice A13 L.length c13]) := (Upd.refl _ y0).setRow _
      have mbG1 := mbG.upd hub (by omega)
      have mb1 := mb0.row #[.int .i64 (wb cb), .int .i64 (wb sb), .int .u64 (wb R), .slice A13 L.length c13]
      have hb1 := below_setRow hb0 (Nat.le_refl _) #[.int .i64 (wb cb), .int .i64 (wb sb), .int .u64 (wb R), .slice A13 L.length c13]
      have hR14 := hR13.upd hub (fun a ha => by have := (hB13 a ha).1; omega)
      refine hK _ _ (fun _ _ => ⟨⟨mbG1.cell 0, mbG1.cell 1, mbG1.cell 2, mbG1.cell 3⟩, below_cell hb1 HC0.out⟩) ?_
      generalize y0.setRow w.heap.size #[.int .i64 (wb cb), .int .i64 (wb sb), .int .u64 (wb R), .slice A13 L.length c13] = y1 at *
      clear hK K hub mb0 hb0 hR13 mbG
      repeat (refine mix_pure rfl rfl (fun K hK => ?_); go_simp; refine hK _ ?_; clear hK K)
      refine mix_nil ?_
      go_wp2_with fail
      refine bodyPost_ret (v := .tuple #[.agg #[.int .i64 (wb cb), .int .i64 (wb sb), .int .u64 (wb R), .slice A13 L.length c13], .bool false]) (results_cell_tmp rfl _ _ _ _ _ _ _ _ rfl rfl mb1 Try.underlying57 rfl (by exact gsize_up)) rfl ?_
      have hp := HPOST.out _ _ ⟨A13, c13, rfl, hc13, hR14⟩ hb1
      rw [hOK.out] at hp
      exact hp
set_option maxRecDepth 100000 in
set_option maxHeartbeats 8000000 in
theorem rgetdown_any (b : List (BitVec 8)) (v : Value) (w : World) (hb : Arg w v b) (hl : b.length ≤ 1048576) (h11 : 11 ≤ b.length) :
    Calls Try.prog 51 #[v] w (RUpP 3 b w) := by
  obtain ⟨A, cap, rfl, hc, hR⟩ := hb
  have HR3 := Lib.hid (rd_cut hR 3 8 cap hc)
  have hr11 := rd_cut hR 11 (b.length - 11) cap hc
  rw [List.take_of_length_le (by rw [List.length_drop]; omega)] at hr11
  have HA11 := Lib.hid (arg_of hr11 (List.length_drop ..) (show b.length - 11 ≤ cap - 11 by omega))
  have HL3 : Hid (((b.drop 3).take 8).length = 8) := by show _ = _; rw [List.length_take, List.length_drop]; omega
  have HA3 := Lib.hid (arg_of HR3.out HL3.out (show 8 ≤ cap - 3 by omega))
  have HN : Hid (num ((b.drop 3).take 8) = get64 (b.drop 3)) := by show _ = _; rfl
  have HL11 : Hid ((b.drop 11).length ≤ 140737488355328) := by show _ ≤ _; rw [List.length_drop]; omega
  have hs1 := fun wx => run_slice_row (P := Try.prog) bytesT A b.length cap 3 11 .i64 .i64 (by omega) (by omega) (by omega) wx
  have hs2 := fun wx => run_slice_from (P := Try.prog) bytesT A b.length cap 11 .i64 (by omega) (by omega) wx
  rw [show (3 : Int).toNat = 3 from rfl, show (11 : Int).toNat = 11 from rfl, show 11 - 3 = 8 from rfl] at hs1
  rw [show (11 : Int).toNat = 11 from rfl] at hs2
  obtain ⟨g0, off, rfl, hcell0⟩ := hR 0 (by omega)
  obtain ⟨_, _, he1, hcell1⟩ := hR 1 (by omega)
  cases he1
  obtain ⟨_, _, he2, hcell2⟩ := hR 2 (by omega)
  cases he2
  have hi1 : (1 : Int) < (b.length : Int) := by omega
  have hi2 : (2 : Int) < (b.length : Int) := by omega
  have hi0 : (0 : Int) < (b.length : Int) := by omega
  rw [Nat.add_zero] at hcell0
  have HOK : Hid (((wb (b.getD 0 0) == 3) && endsB (wb (b.getD 1 0)) (wb (b.getD 2 0)) (get64 (b.drop 3))) = pkOk 3 b) := by
    show _ = _
    have e : ((wb (b.getD 0 0) : Int) == 3) = (b.getD 0 0 == 3) := by
      have := wb_neq8 (b.getD 0 0) 3
      rw [show wb (3 : BitVec 8) = 3 from rfl] at this
      unfold bne at this
      rw [Bool.not_inj_iff] at this
      exact this
    unfold pkOk
    rw [e]
  have HPOST : Hid (∀ v w', Arg w' v (b.drop 11) → Below w.heap.size w w' → RUpP 3 b w (.returned (.tuple #[.agg #[.int .i64 (wb (b.getD 1 0)), .int .i64 (wb (b.getD 2 0)), .int .u64 (wb (get64 (b.drop 3))), v], .bool (pkOk 3 b)])) w') := fun v w' h1 h2 => ⟨v, rfl, h1, h2⟩
  clear hR hr11
  generalize b.getD 0 0 = kb at *
  generalize b.getD 1 0 = cb at *
  generalize b.getD 2 0 = sb at *
  generalize get64 (b.drop 3) = R at *
  generalize pkOk 3 b = OK at *
  generalize hL : b.drop 11 = L at *
  clear hL
  have hi0n : 0 < b.length := by omega
  have hi0m : ¬ b.length = 0 := by omega
  generalize b.length = N at *
  have HK := Lib.hid (fun wx => rends_any (wb cb) (wb sb) R wx)
  have hb0 : Below w.heap.size w (w.alloc (.cells #[.int .i64 0, .int .i64 0, .int .u64 0, .slice none 0 0] 59)) := (Below.refl _ _).alloc (Nat.le_refl _) _
  have mb0 := Blk.new w #[.int .i64 0, .int .i64 0, .int .u64 0, .slice none 0 0] 59
  go_enter Try.func51, Try.ntmps51
  go_wp2_with fail
  refine mix_plan (fun w' => Below w.heap.size w w') (.step 0 (.step 1 (.step 2 (.step 3 (.step 4 (.step 5 (.step 6 (.step 7 (.step 8 (.step 9 (.step 11 (.step 12 (.fork 10 15 (.fork 13 15 (.step 14 (.step 15 (.step 16 (.done)))) (.step 13 (.step 14 (.step 16 (.done))))) (.step 10 (.step 13 (.step 14 (.step 16 (.done)))))))))))))))))) [10, 13, 15, 16] [2, 6] [] (by kernel_rfl) (by kernel_rfl) (fun d _ _ _ _ h => by cases d <;> exact h) hb0.drew ?_
  replace hb0 := hb0.drew
  replace mb0 := mb0.drew
  generalize (w.alloc (.cells #[.int .i64 0, .int .i64 0, .int .u64 0, .slice none 0 0] 59)).drew = x0 at *
  have hx0 : w.heap.size < x0.heap.size := mb0.lt
  repeat (refine mix_pure rfl rfl (fun K hK => ?_); go_simp; refine hK _ ?_; clear hK K)
  refine mix_read (.int .u8 (wb cb)) rfl rfl rfl rfl (fun w' hS => ?_) ?_
  · have hc' := below_cell hS hcell1
    go_simp
  repeat (refine mix_pure rfl rfl (fun K hK => ?_); go_simp; refine hK _ ?_; clear hK K)
  refine mix_read (.int .u8 (wb sb)) rfl rfl rfl rfl (fun w' hS => ?_) ?_
  · have hc' := below_cell hS hcell2
    go_simp
  repeat (refine mix_pure rfl rfl (fun K hK => ?_); go_simp; refine hK _ ?_; clear hK K)
  refine mix_fork rfl rfl (fun K hK => ?_) (fun K hK => ?_)
  · go_simp
    refine (rnum14_v (HA3.out.below hb0) (by rw [HL3.out]; omega)).mono ?_
    rintro e w' ⟨rfl, rfl⟩
    refine hK _ _ (fun _ h => h) ?_
    clear hK K
    repeat (refine mix_pure rfl rfl (fun K hK => ?_); go_simp; refine hK _ ?_; clear hK K)
    rw [HN.out]
    refine mix_fork rfl rfl (fun K hK => ?_) (fun K hK => ?_)
    · go_simp
      refine (rboth14_any L _ [] none 0 x0 (HA11.out.below hb0) (Args.nil0 _) (by simpa using HL11.out) (by simp)).mono ?_
      rintro e x1 ⟨u13, rfl, h13, hn⟩
      replace h13 : OwnB x1 x0.heap.size u13 (L ++ [].flatten) := h13
      rw [List.flatten_nil, List.append_nil] at h13
      obtain ⟨A13, c13, rfl, hc13, hR13, hB13⟩ := h13.block
      replace mb0 := mb0.below hn mb0.lt
      replace hb0 := hb0.trans (hn.mono hb0.size)

      refine hK _ _ (fun _ _ => hb0) ?_
      clear hK K hn h13
      repeat (refine mix_pure rfl rfl (fun K hK => ?_); go_simp; refine hK _ ?_; clear hK K)
      refine mix_eff rfl rfl (fun K hK => ?_)
      go_simp
      have hn : Below x1.heap.size x1 (x1.alloc (.cells #[.int .i64 0, .int .i64 0, .int .u64 0, .slice none 0 0] 59)) := (Below.refl _ _).alloc (Nat.le_refl _) _
      have mbG := Blk.new x1 #[.int .i64 0, .int .i64 0, .int .u64 0, .slice none 0 0] 59
      have hGlt : w.heap.size < x1.heap.size := mb0.lt
      replace mb0 := mb0.below hn mb0.lt
      replace hb0 := hb0.trans (hn.mono hb0.size)
      have hne : ∀ a, A13 = some a → a.block ≠ x1.heap.size := fun a ha => by have := (hB13 a ha).2; omega
      replace hR13 := hR13.below hn
      refine hK _ _ (fun _ _ => hb0) ?_
      generalize x1.alloc (.cells #[.int .i64 0, .int .i64 0, .int .u64 0, .slice none 0 0] 59) = xe at *
      clear hK K hn
      generalize x1.heap.size = G at *
      have hGn : G < xe.heap.size := mbG.lt
      repeat (refine mix_pure rfl rfl (fun K hK => ?_); go_simp; refine hK _ ?_; clear hK K)
      refine mix_eff rfl rfl (fun K hK => ?_)
      refine step_store_row rfl 59 _ _ rfl _ _ rfl rfl 59 _ mbG (by exact gsize_down) (by simp) (by simp [Value.oneCell']) ?_
      have hub : Upd G xe (xe.setRow G #[.int .i64 (wb cb), .int .i64 (wb sb), .int .u64 (wb R), .slice A13 L.length c13]) := (Upd.refl _ xe).setRow _
      replace mbG := mbG.row #[.int .i64 (wb cb), .int .i64 (wb sb), .int .u64 (wb R), .slice A13 L.length c13]
      replace mb0 := mb0.upd hub (by omega)
      replace hb0 := below_setRow hb0 (Nat.le_of_lt hGlt) #[.int .i64 (wb cb), .int .i64 (wb sb), .int .u64 (wb R), .slice A13 L.length c13]
      replace hR13 := hR13.upd hub hne
      refine hK _ _ (fun _ _ => hb0) ?_
      generalize xe.setRow G #[.int .i64 (wb cb), .int .i64 (wb sb), .int .u64 (wb R), .slice A13 L.length c13] = xf at *
      clear hK K hub
      repeat (refine mix_pure rfl rfl (fun K hK => ?_); go_simp; refine hK _ ?_; clear hK K)
      refine mix_nil ?_
      clear hcell1 hcell2 hs1 hs2
      have hc0 := below_cell hb0 hcell0
      have HC0 := Lib.hid hcell0
      have k0 : xf.cell? ⟨G, 0, none⟩ = some (.int .i64 (wb cb)) := mbG.cell 0
      have k1 : xf.cell? ⟨G, 1, none⟩ = some (.int .i64 (wb sb)) := mbG.cell 1
      have k2 : xf.cell? ⟨G, 2, none⟩ = some (.int .u64 (wb R)) := mbG.cell 2
      have k3 : xf.cell? ⟨G, 3, none⟩ = some (.slice A13 L.length c13) := mbG.cell 3
      clear hcell0
      cases hq : ((wb kb : Int) == 3) with
      | true =>
        go_wp2_with fail
        refine mix_start (fun w' => (w'.cell? ⟨G, 0, none⟩ = some (.int .i64 (wb cb)) ∧ w'.cell? ⟨G, 1, none⟩ = some (.int .i64 (wb sb)) ∧ w'.cell? ⟨G, 2, none⟩ = some (.int .u64 (wb R)) ∧ w'.cell? ⟨G, 3, none⟩ = some (.slice A13 L.length c13)) ∧ w'.cell? ⟨g0, off, none⟩ = some (.int .u8 (wb kb))) (List.range 16) [12, 14] [0, 3, 7, 9, 11] [] (by kernel_rfl) (by kernel_rfl) (fun d _ _ _ _ h => by cases d <;> exact h) ⟨⟨k0, k1, k2, k3⟩, hc0⟩ ?_
        replace mb0 := mb0.drew
        replace mbG := mbG.drew
        replace hb0 := hb0.drew
        replace hR13 : Rd xf.drew .u8 A13 L := hR13
        clear k0 k1 k2 k3 hc0
        generalize xf.drew = y0 at *
        repeat (refine mix_pure rfl rfl (fun K hK => ?_); go_simp; refine hK _ ?_; clear hK K)
        refine mix_read (.agg #[.int .i64 (wb cb), .int .i64 (wb sb), .int .u64 (wb R), .slice A13 L.length c13]) rfl rfl rfl rfl (fun w' hS => ?_) ?_
        · obtain ⟨⟨k0, k1, k2, k3⟩, -⟩ := hS
          go_simp
        repeat (refine mix_pure rfl rfl (fun K hK => ?_); go_simp; refine hK _ ?_; clear hK K)
        refine mix_read (.int .u8 (wb kb)) rfl rfl rfl rfl (fun w' hS => ?_) ?_
        · have k5 := hS.2
          go_simp
        repeat (refine mix_pure rfl rfl (fun K hK => ?_); go_simp; refine hK _ ?_; clear hK K)
        rw [hq] at HOK
        repeat (refine mix_pure rfl rfl (fun K hK => ?_); go_simp; refine hK _ ?_; clear hK K)
        refine mix_read (.int .i64 (wb cb)) rfl rfl rfl rfl (fun w' hS => ?_) ?_
        · have k5 := hS.1.1
          go_simp
        repeat (refine mix_pure rfl rfl (fun K hK => ?_); go_simp; refine hK _ ?_; clear hK K)
        refine mix_read (.int .i64 (wb sb)) rfl rfl rfl rfl (fun w' hS => ?_) ?_
        · have k5 := hS.1.2.1
          go_simp
        repeat (refine mix_pure rfl rfl (fun K hK => ?_); go_simp; refine hK _ ?_; clear hK K)
        refine mix_read (.int .u64 (wb R)) rfl rfl rfl rfl (fun w' hS => ?_) ?_
        · have k5 := hS.1.2.2.1
          go_simp
        refine mix_eff rfl rfl (fun K hK => ?_)
        go_simp
        refine (HK.out y0).mono ?_
        rintro e w' ⟨rfl, rfl⟩
        refine hK _ _ (fun _ h => h) ?_
        clear hK K
        rw [show endsB (wb cb) (wb sb) R = OK from HOK.out]
        repeat (refine mix_pure rfl rfl (fun K hK => ?_); go_simp; refine hK _ ?_; clear hK K)
        refine mix_eff rfl rfl (fun K hK => ?_)
        refine step_store_row rfl 59 _ _ rfl _ _ rfl rfl 59 _ mb0 (by exact gsize_down) (by simp) (by simp [Value.oneCell']) ?_
        have hub : Upd w.heap.size y0 (y0.setRow w.heap.size #[.int .i64 (wb cb), .int .i64 (wb sb), .int .u64 (wb R), .slice A13 L.length c13]) := (Upd.refl _ y0).setRow _
        have mbG1 := mbG.upd hub (by omega)
        have mb1 := mb0.row #[.int .i64 (wb cb), .int .i64 (wb sb), .int .u64 (wb R), .slice A13 L.length c13]
        have hb1 := below_setRow hb0 (Nat.le_refl _) #[.int .i64 (wb cb), .int .i64 (wb sb), .int .u64 (wb R), .slice A13 L.length c13]
        have hR14 := hR13.upd hub (fun a ha => by have := (hB13 a ha).1; omega)
        refine hK _ _ (fun _ _ => ⟨⟨mbG1.cell 0, mbG1.cell 1, mbG1.cell 2, mbG1.cell 3⟩, below_cell hb1 HC0.out⟩) ?_
        generalize y0.setRow w.heap.size #[.int .i64 (wb cb), .int .i64 (wb sb), .int .u64 (wb R), .slice A13 L.length c13] = y1 at *
        clear hK K hub mb0 hb0 hR13 mbG
        repeat (refine mix_pure rfl rfl (fun K hK => ?_); go_simp; refine hK _ ?_; clear hK K)
        refine mix_nil ?_
        go_wp2_with fail
        refine bodyPost_ret (v := .tuple #[.agg #[.int .i64 (wb cb), .int .i64 (wb sb), .int .u64 (wb R), .slice A13 L.length c13], .bool OK]) (results_cell_tmp rfl _ _ _ _ _ _ _ _ rfl rfl mb1 Try.underlying59 rfl (by exact gsize_down)) rfl ?_
        exact HPOST.out _ _ ⟨A13, c13, rfl, hc13, hR14⟩ hb1
      | false =>
        go_wp2_with fail
        refine mix_start (fun w' => (w'.cell? ⟨G, 0, none⟩ = some (.int .i64 (wb cb)) ∧ w'.cell? ⟨G, 1, none⟩ = some (.int .i64 (wb sb)) ∧ w'.cell? ⟨G, 2, none⟩ = some (.int .u64 (wb R)) ∧ w'.cell? ⟨G, 3, none⟩ = some (.slice A13 L.length c13)) ∧ w'.cell? ⟨g0, off, none⟩ = some (.int .u8 (wb kb))) (List.range 16) [12, 14] [0, 3, 7, 9, 11] [] (by kernel_rfl) (by kernel_rfl) (fun d _ _ _ _ h => by cases d <;> exact h) ⟨⟨k0, k1, k2, k3⟩, hc0⟩ ?_
        replace mb0 := mb0.drew
        replace mbG := mbG.drew
        replace hb0 := hb0.drew
        replace hR13 : Rd xf.drew .u8 A13 L := hR13
        clear k0 k1 k2 k3 hc0
        generalize xf.drew = y0 at *
        repeat (refine mix_pure rfl rfl (fun K hK => ?_); go_simp; refine hK _ ?_; clear hK K)
        refine mix_read (.agg #[.int .i64 (wb cb), .int .i64 (wb sb), .int .u64 (wb R), .slice A13 L.length c13]) rfl rfl rfl rfl (fun w' hS => ?_) ?_
        · obtain ⟨⟨k0, k1, k2, k3⟩, -⟩ := hS
          go_simp
        repeat (refine mix_pure rfl rfl (fun K hK => ?_); go_simp; refine hK _ ?_; clear hK K)
        refine mix_read (.int .u8 (wb kb)) rfl rfl rfl rfl (fun w' hS => ?_) ?_
        · have k5 := hS.2
          go_simp
        repeat (refine mix_pure rfl rfl (fun K hK => ?_); go_simp; refine hK _ ?_; clear hK K)
        rw [hq] at HOK
        have hOK : OK = false := by have := HOK.out; simpa using this.symm
        replace hOK := Lib.hid hOK
        refine mix_skip rfl (by kernel_rfl) ?_
        repeat (refine mix_pure rfl rfl (fun K hK => ?_); go_simp; refine hK _ ?_; clear hK K)
        refine mix_eff rfl rfl (fun K hK => ?_)
        refine step_store_row rfl 59 _ _ rfl _ _ rfl rfl 59 _ mb0 (by exact gsize_down) (by simp) (by simp [Value.oneCell']) ?_
        have hub : Upd w.heap.size y0 (y0.setRow w.heap.size #[.int .i64 (wb cb), .int .i64 (wb sb), .int .u64 (wb R), .slice A13 L.length c13]) := (Upd.refl _ y0).setRow _
        have mbG1 := mbG.upd hub (by omega)
        have mb1 := mb0.row #[.int .i64 (wb cb), .int .i64 (wb sb), .int .u64 (wb R), .slice A13 L.length c13]
        have hb1 := below_setRow hb0 (Nat.le_refl _) #[.int .i64 (wb cb), .int .i64 (wb sb), .int .u64 (wb R), .slice A13 L.length c13]
        have hR14 := hR13.upd hub (fun a ha => by have := (hB13 a ha).1; omega)
        refine hK _ _ (fun _ _ => ⟨⟨mbG1.cell 0, mbG1.cell 1, mbG1.cell 2, mbG1.cell 3⟩, below_cell hb1 HC0.out⟩) ?_
        generalize y0.setRow w.heap.size #[.int .i64 (wb cb), .int .i64 (wb sb), .int .u64 (wb R), .slice A13 L.length c13] = y1 at *
        clear hK K hub mb0 hb0 hR13 mbG
        repeat (refine mix_pure rfl rfl (fun K hK => ?_); go_simp; refine hK _ ?_; clear hK K)
        refine mix_nil ?_
        go_wp2_with fail
        refine bodyPost_ret (v := .tuple #[.agg #[.int .i64 (wb cb), .int .i64 (wb sb), .int .u64 (wb R), .slice A13 L.length c13], .bool false]) (results_cell_tmp rfl _ _ _ _ _ _ _ _ rfl rfl mb1 Try.underlying59 rfl (by exact gsize_down)) rfl ?_
        have hp := HPOST.out _ _ ⟨A13, c13, rfl, hc13, hR14⟩ hb1
        rw [hOK.out] at hp
        exact hp
    · go_simp
      have hn : Below x0.heap.size x0 (x0.alloc (.cells #[.int .i64 0, .int .i64 0, .int .u64 0, .slice none 0 0] 59)) := (Below.refl _ _).alloc (Nat.le_refl _) _
      have mbG := Blk.new x0 #[.int .i64 0, .int .i64 0, .int .u64 0, .slice none 0 0] 59
      have hGlt : w.heap.size < x0.heap.size := mb0.lt
      replace mb0 := mb0.below hn mb0.lt
      replace hb0 := hb0.trans (hn.mono hb0.size)

      refine hK _ _ (fun _ _ => hb0) ?_
      generalize x0.alloc (.cells #[.int .i64 0, .int .i64 0, .int .u64 0, .slice none 0 0] 59) = x1 at *
      clear hK K hn
      generalize x0.heap.size = G at *
      have hGn : G < x1.heap.size := mbG.lt
      repeat (refine mix_pure rfl rfl (fun K hK => ?_); go_simp; refine hK _ ?_; clear hK K)
      refine mix_eff rfl rfl (fun K hK => ?_)
      go_simp
      refine (rboth14_any L _ [] none 0 x1 (HA11.out.below hb0) (Args.nil0 _) (by simpa using HL11.out) (by simp)).mono ?_
      rintro e xe ⟨u13, rfl, h13, hn⟩
      replace h13 : OwnB xe x1.heap.size u13 (L ++ [].flatten) := h13
      rw [List.flatten_nil, List.append_nil] at h13
      obtain ⟨A13, c13, rfl, hc13, hR13, hB13⟩ := h13.block
      replace mb0 := mb0.below hn mb0.lt
      replace hb0 := hb0.trans (hn.mono hb0.size)
      have hne : ∀ a, A13 = some a → a.block ≠ G := fun a ha => by have := (hB13 a ha).1; have := mbG.lt; omega
      replace mbG := mbG.below hn mbG.lt
      refine hK _ _ (fun _ _ => hb0) ?_
      clear hK K hn h13
      repeat (refine mix_pure rfl rfl (fun K hK => ?_); go_simp; refine hK _ ?_; clear hK K)
      refine mix_eff rfl rfl (fun K hK => ?_)
      refine step_store_row rfl 59 _ _ rfl _ _ rfl rfl 59 _ mbG (by exact gsize_down) (by simp) (by simp [Value.oneCell']) ?_
      have hub : Upd G xe (xe.setRow G #[.int .i64 (wb cb), .int .i64 (wb sb), .int .u64 (wb R), .slice A13 L.length c13]) := (Upd.refl _ xe).setRow _
      replace mbG := mbG.row #[.int .i64 (wb cb), .int .i64 (wb sb), .int .u64 (wb R), .slice A13 L.length c13]
      replace mb0 := mb0.upd hub (by omega)
      replace hb0 := below_setRow hb0 (Nat.le_of_lt hGlt) #[.int .i64 (wb cb), .int .i64 (wb sb), .int .u64 (wb R), .slice A13 L.length c13]
      replace hR13 := hR13.upd hub hne
      refine hK _ _ (fun _ _ => hb0) ?_
      generalize xe.setRow G #[.int .i64 (wb cb), .int .i64 (wb sb), .int .u64 (wb R), .slice A13 L.length c13] = xf at *
      clear hK K hub
      repeat (refine mix_pure rfl rfl (fun K hK => ?_); go_simp; refine hK _ ?_; clear hK K)
      refine mix_nil ?_
      clear hcell1 hcell2 hs1 hs2
      have hc0 := below_cell hb0 hcell0
      have HC0 := Lib.hid hcell0
      have k0 : xf.cell? ⟨G, 0, none⟩ = some (.int .i64 (wb cb)) := mbG.cell 0
      have k1 : xf.cell? ⟨G, 1, none⟩ = some (.int .i64 (wb sb)) := mbG.cell 1
      have k2 : xf.cell? ⟨G, 2, none⟩ = some (.int .u64 (wb R)) := mbG.cell 2
      have k3 : xf.cell? ⟨G, 3, none⟩ = some (.slice A13 L.length c13) := mbG.cell 3
      clear hcell0
      cases hq : ((wb kb : Int) == 3) with
      | true =>
        go_wp2_with fail
        refine mix_start (fun w' => (w'.cell? ⟨G, 0, none⟩ = some (.int .i64 (wb cb)) ∧ w'.cell? ⟨G, 1, none⟩ = some (.int .i64 (wb sb)) ∧ w'.cell? ⟨G, 2, none⟩ = some (.int .u64 (wb R)) ∧ w'.cell? ⟨G, 3, none⟩ = some (.slice A13 L.length c13)) ∧ w'.cell? ⟨g0, off, none⟩ = some (.int .u8 (wb kb))) (List.range 16) [12, 14] [0, 3, 7, 9, 11] [] (by kernel_rfl) (by kernel_rfl) (fun d _ _ _ _ h => by cases d <;> exact h) ⟨⟨k0, k1, k2, k3⟩, hc0⟩ ?_
        replace mb0 := mb0.drew
        replace mbG := mbG.drew
        replace hb0 := hb0.drew
        replace hR13 : Rd xf.drew .u8 A13 L := hR13
        clear k0 k1 k2 k3 hc0
        generalize xf.drew = y0 at *
        repeat (refine mix_pure rfl rfl (fun K hK => ?_); go_simp; refine hK _ ?_; clear hK K)
        refine mix_read (.agg #[.int .i64 (wb cb), .int .i64 (wb sb), .int .u64 (wb R), .slice A13 L.length c13]) rfl rfl rfl rfl (fun w' hS => ?_) ?_
        · obtain ⟨⟨k0, k1, k2, k3⟩, -⟩ := hS
          go_simp
        repeat (refine mix_pure rfl rfl (fun K hK => ?_); go_simp; refine hK _ ?_; clear hK K)
        refine mix_read (.int .u8 (wb kb)) rfl rfl rfl rfl (fun w' hS => ?_) ?_
        · have k5 := hS.2
          go_simp
        repeat (refine mix_pure rfl rfl (fun K hK => ?_); go_simp; refine hK _ ?_; clear hK K)
        rw [hq] at HOK
        repeat (refine mix_pure rfl rfl (fun K hK => ?_); go_simp; refine hK _ ?_; clear hK K)
        refine mix_read (.int .i64 (wb cb)) rfl rfl rfl rfl (fun w' hS => ?_) ?_
        · have k5 := hS.1.1
          go_simp
        repeat (refine mix_pure rfl rfl (fun K hK => ?_); go_simp; refine hK _ ?_; clear hK K)
        refine mix_read (.int .i64 (wb sb)) rfl rfl rfl rfl (fun w' hS => ?_) ?_
        · have k5 := hS.1.2.1
          go_simp
        repeat (refine mix_pure rfl rfl (fun K hK => ?_); go_simp; refine hK _ ?_; clear hK K)
        refine mix_read (.int .u64 (wb R)) rfl rfl rfl rfl (fun w' hS => ?_) ?_
        · have k5 := hS.1.2.2.1
          go_simp
        refine mix_eff rfl rfl (fun K hK => ?_)
        go_simp
        refine (HK.out y0).mono ?_
        rintro e w' ⟨rfl, rfl⟩
        refine hK _ _ (fun _ h => h) ?_
        clear hK K
        rw [show endsB (wb cb) (wb sb) R = OK from HOK.out]
        repeat (refine mix_pure rfl rfl (fun K hK => ?_); go_simp; refine hK _ ?_; clear hK K)
        refine mix_eff rfl rfl (fun K hK => ?_)
        refine step_store_row rfl 59 _ _ rfl _ _ rfl rfl 59 _ mb0 (by exact gsize_down) (by simp) (by simp [Value.oneCell']) ?_
        have hub : Upd w.heap.size y0 (y0.setRow w.heap.size #[.int .i64 (wb cb), .int .i64 (wb sb), .int .u64 (wb R), .slice A13 L.length c13]) := (Upd.refl _ y0).setRow _
        have mbG1 := mbG.upd hub (by omega)
        have mb1 := mb0.row #[.int .i64 (wb cb), .int .i64 (wb sb), .int .u64 (wb R), .slice A13 L.length c13]
        have hb1 := below_setRow hb0 (Nat.le_refl _) #[.int .i64 (wb cb), .int .i64 (wb sb), .int .u64 (wb R), .slice A13 L.length c13]
        have hR14 := hR13.upd hub (fun a ha => by have := (hB13 a ha).1; omega)
        refine hK _ _ (fun _ _ => ⟨⟨mbG1.cell 0, mbG1.cell 1, mbG1.cell 2, mbG1.cell 3⟩, below_cell hb1 HC0.out⟩) ?_
        generalize y0.setRow w.heap.size #[.int .i64 (wb cb), .int .i64 (wb sb), .int .u64 (wb R), .slice A13 L.length c13] = y1 at *
        clear hK K hub mb0 hb0 hR13 mbG
        repeat (refine mix_pure rfl rfl (fun K hK => ?_); go_simp; refine hK _ ?_; clear hK K)
        refine mix_nil ?_
        go_wp2_with fail
        refine bodyPost_ret (v := .tuple #[.agg #[.int .i64 (wb cb), .int .i64 (wb sb), .int .u64 (wb R), .slice A13 L.length c13], .bool OK]) (results_cell_tmp rfl _ _ _ _ _ _ _ _ rfl rfl mb1 Try.underlying59 rfl (by exact gsize_down)) rfl ?_
        exact HPOST.out _ _ ⟨A13, c13, rfl, hc13, hR14⟩ hb1
      | false =>
        go_wp2_with fail
        refine mix_start (fun w' => (w'.cell? ⟨G, 0, none⟩ = some (.int .i64 (wb cb)) ∧ w'.cell? ⟨G, 1, none⟩ = some (.int .i64 (wb sb)) ∧ w'.cell? ⟨G, 2, none⟩ = some (.int .u64 (wb R)) ∧ w'.cell? ⟨G, 3, none⟩ = some (.slice A13 L.length c13)) ∧ w'.cell? ⟨g0, off, none⟩ = some (.int .u8 (wb kb))) (List.range 16) [12, 14] [0, 3, 7, 9, 11] [] (by kernel_rfl) (by kernel_rfl) (fun d _ _ _ _ h => by cases d <;> exact h) ⟨⟨k0, k1, k2, k3⟩, hc0⟩ ?_
        replace mb0 := mb0.drew
        replace mbG := mbG.drew
        replace hb0 := hb0.drew
        replace hR13 : Rd xf.drew .u8 A13 L := hR13
        clear k0 k1 k2 k3 hc0
        generalize xf.drew = y0 at *
        repeat (refine mix_pure rfl rfl (fun K hK => ?_); go_simp; refine hK _ ?_; clear hK K)
        refine mix_read (.agg #[.int .i64 (wb cb), .int .i64 (wb sb), .int .u64 (wb R), .slice A13 L.length c13]) rfl rfl rfl rfl (fun w' hS => ?_) ?_
        · obtain ⟨⟨k0, k1, k2, k3⟩, -⟩ := hS
          go_simp
        repeat (refine mix_pure rfl rfl (fun K hK => ?_); go_simp; refine hK _ ?_; clear hK K)
        refine mix_read (.int .u8 (wb kb)) rfl rfl rfl rfl (fun w' hS => ?_) ?_
        · have k5 := hS.2
          go_simp
        repeat (refine mix_pure rfl rfl (fun K hK => ?_); go_simp; refine hK _ ?_; clear hK K)
        rw [hq] at HOK
        have hOK : OK = false := by have := HOK.out; simpa using this.symm
        replace hOK := Lib.hid hOK
        refine mix_skip rfl (by kernel_rfl) ?_
        repeat (refine mix_pure rfl rfl (fun K hK => ?_); go_simp; refine hK _ ?_; clear hK K)
        refine mix_eff rfl rfl (fun K hK => ?_)
        refine step_store_row rfl 59 _ _ rfl _ _ rfl rfl 59 _ mb0 (by exact gsize_down) (by simp) (by simp [Value.oneCell']) ?_
        have hub : Upd w.heap.size y0 (y0.setRow w.heap.size #[.int .i64 (wb cb), .int .i64 (wb sb), .int .u64 (wb R), .slice A13 L.length c13]) := (Upd.refl _ y0).setRow _
        have mbG1 := mbG.upd hub (by omega)
        have mb1 := mb0.row #[.int .i64 (wb cb), .int .i64 (wb sb), .int .u64 (wb R), .slice A13 L.length c13]
        have hb1 := below_setRow hb0 (Nat.le_refl _) #[.int .i64 (wb cb), .int .i64 (wb sb), .int .u64 (wb R), .slice A13 L.length c13]
        have hR14 := hR13.upd hub (fun a ha => by have := (hB13 a ha).1; omega)
        refine hK _ _ (fun _ _ => ⟨⟨mbG1.cell 0, mbG1.cell 1, mbG1.cell 2, mbG1.cell 3⟩, below_cell hb1 HC0.out⟩) ?_
        generalize y0.setRow w.heap.size #[.int .i64 (wb cb), .int .i64 (wb sb), .int .u64 (wb R), .slice A13 L.length c13] = y1 at *
        clear hK K hub mb0 hb0 hR13 mbG
        repeat (refine mix_pure rfl rfl (fun K hK => ?_); go_simp; refine hK _ ?_; clear hK K)
        refine mix_nil ?_
        go_wp2_with fail
        refine bodyPost_ret (v := .tuple #[.agg #[.int .i64 (wb cb), .int .i64 (wb sb), .int .u64 (wb R), .slice A13 L.length c13], .bool false]) (results_cell_tmp rfl _ _ _ _ _ _ _ _ rfl rfl mb1 Try.underlying59 rfl (by exact gsize_down)) rfl ?_
        have hp := HPOST.out _ _ ⟨A13, c13, rfl, hc13, hR14⟩ hb1
        rw [hOK.out] at hp
        exact hp
  · go_simp
    have hn : Below x0.heap.size x0 (x0.alloc (.cells #[.int .i64 0, .int .i64 0, .int .u64 0, .slice none 0 0] 59)) := (Below.refl _ _).alloc (Nat.le_refl _) _
    have mbG := Blk.new x0 #[.int .i64 0, .int .i64 0, .int .u64 0, .slice none 0 0] 59
    have hGlt : w.heap.size < x0.heap.size := mb0.lt
    replace mb0 := mb0.below hn mb0.lt
    replace hb0 := hb0.trans (hn.mono hb0.size)

    refine hK _ _ (fun _ _ => hb0) ?_
    generalize x0.alloc (.cells #[.int .i64 0, .int .i64 0, .int .u64 0, .slice none 0 0] 59) = x1 at *
    clear hK K hn
    generalize x0.heap.size = G at *
    have hGn : G < x1.heap.size := mbG.lt
    repeat (refine mix_pure rfl rfl (fun K hK => ?_); go_simp; refine hK _ ?_; clear hK K)
    refine mix_eff rfl rfl (fun K hK => ?_)
    go_simp
    refine (rnum14_v (HA3.out.below hb0) (by rw [HL3.out]; omega)).mono ?_
    rintro e w' ⟨rfl, rfl⟩
    refine hK _ _ (fun _ h => h) ?_
    clear hK K
    repeat (refine mix_pure rfl rfl (fun K hK => ?_); go_simp; refine hK _ ?_; clear hK K)
    rw [HN.out]
    refine mix_eff rfl rfl (fun K hK => ?_)
    go_simp
    refine (rboth14_any L _ [] none 0 x1 (HA11.out.below hb0) (Args.nil0 _) (by simpa using HL11.out) (by simp)).mono ?_
    rintro e xe ⟨u13, rfl, h13, hn⟩
    replace h13 : OwnB xe x1.heap.size u13 (L ++ [].flatten) := h13
    rw [List.flatten_nil, List.append_nil] at h13
    obtain ⟨A13, c13, rfl, hc13, hR13, hB13⟩ := h13.block
    replace mb0 := mb0.below hn mb0.lt
    replace hb0 := hb0.trans (hn.mono hb0.size)
    have hne : ∀ a, A13 = some a → a.block ≠ G := fun a ha => by have := (hB13 a ha).1; have := mbG.lt; omega
    replace mbG := mbG.below hn mbG.lt
    refine hK _ _ (fun _ _ => hb0) ?_
    clear hK K hn h13
    repeat (refine mix_pure rfl rfl (fun K hK => ?_); go_simp; refine hK _ ?_; clear hK K)
    refine mix_eff rfl rfl (fun K hK => ?_)
    refine step_store_row rfl 59 _ _ rfl _ _ rfl rfl 59 _ mbG (by exact gsize_down) (by simp) (by simp [Value.oneCell']) ?_
    have hub : Upd G xe (xe.setRow G #[.int .i64 (wb cb), .int .i64 (wb sb), .int .u64 (wb R), .slice A13 L.length c13]) := (Upd.refl _ xe).setRow _
    replace mbG := mbG.row #[.int .i64 (wb cb), .int .i64 (wb sb), .int .u64 (wb R), .slice A13 L.length c13]
    replace mb0 := mb0.upd hub (by omega)
    replace hb0 := below_setRow hb0 (Nat.le_of_lt hGlt) #[.int .i64 (wb cb), .int .i64 (wb sb), .int .u64 (wb R), .slice A13 L.length c13]
    replace hR13 := hR13.upd hub hne
    refine hK _ _ (fun _ _ => hb0) ?_
    generalize xe.setRow G #[.int .i64 (wb cb), .int .i64 (wb sb), .int .u64 (wb R), .slice A13 L.length c13] = xf at *
    clear hK K hub
    repeat (refine mix_pure rfl rfl (fun K hK => ?_); go_simp; refine hK _ ?_; clear hK K)
    refine mix_nil ?_
    clear hcell1 hcell2 hs1 hs2
    have hc0 := below_cell hb0 hcell0
    have HC0 := Lib.hid hcell0
    have k0 : xf.cell? ⟨G, 0, none⟩ = some (.int .i64 (wb cb)) := mbG.cell 0
    have k1 : xf.cell? ⟨G, 1, none⟩ = some (.int .i64 (wb sb)) := mbG.cell 1
    have k2 : xf.cell? ⟨G, 2, none⟩ = some (.int .u64 (wb R)) := mbG.cell 2
    have k3 : xf.cell? ⟨G, 3, none⟩ = some (.slice A13 L.length c13) := mbG.cell 3
    clear hcell0
    cases hq : ((wb kb : Int) == 3) with
    | true =>
      go_wp2_with fail
      refine mix_start (fun w' => (w'.cell? ⟨G, 0, none⟩ = some (.int .i64 (wb cb)) ∧ w'.cell? ⟨G, 1, none⟩ = some (.int .i64 (wb sb)) ∧ w'.cell? ⟨G, 2, none⟩ = some (.int .u64 (wb R)) ∧ w'.cell? ⟨G, 3, none⟩ = some (.slice A13 L.length c13)) ∧ w'.cell? ⟨g0, off, none⟩ = some (.int .u8 (wb kb))) (List.range 16) [12, 14] [0, 3, 7, 9, 11] [] (by kernel_rfl) (by kernel_rfl) (fun d _ _ _ _ h => by cases d <;> exact h) ⟨⟨k0, k1, k2, k3⟩, hc0⟩ ?_
      replace mb0 := mb0.drew
      replace mbG := mbG.drew
      replace hb0 := hb0.drew
      replace hR13 : Rd xf.drew .u8 A13 L := hR13
      clear k0 k1 k2 k3 hc0
      generalize xf.drew = y0 at *
      repeat (refine mix_pure rfl rfl (fun K hK => ?_); go_simp; refine hK _ ?_; clear hK K)
      refine mix_read (.agg #[.int .i64 (wb cb), .int .i64 (wb sb), .int .u64 (wb R), .slice A13 L.length c13]) rfl rfl rfl rfl (fun w' hS => ?_) ?_
      · obtain ⟨⟨k0, k1, k2, k3⟩, -⟩ := hS
        go_simp
      repeat (refine mix_pure rfl rfl (fun K hK => ?_); go_simp; refine hK _ ?_; clear hK K)
      refine mix_read (.int .u8 (wb kb)) rfl rfl rfl rfl (fun w' hS => ?_) ?_
      · have k5 := hS.2
        go_simp
      repeat (refine mix_pure rfl rfl (fun K hK => ?_); go_simp; refine hK _ ?_; clear hK K)
      rw [hq] at HOK
      repeat (refine mix_pure rfl rfl (fun K hK => ?_); go_simp; refine hK _ ?_; clear hK K)
      refine mix_read (.int .i64 (wb cb)) rfl rfl rfl rfl (fun w' hS => ?_) ?_
      · have k5 := hS.1.1
        go_simp
      repeat (refine mix_pure rfl rfl (fun K hK => ?_); go_simp; refine hK _ ?_; clear hK K)
      refine mix_read (.int .i64 (wb sb)) rfl rfl rfl rfl (fun w' hS => ?_) ?_
      · have k5 := hS.1.2.1
        go_simp
      repeat (refine mix_pure rfl rfl (fun K hK => ?_); go_simp; refine hK _ ?_; clear hK K)
      refine mix_read (.int .u64 (wb R)) rfl rfl rfl rfl (fun w' hS => ?_) ?_
      · have k5 := hS.1.2.2.1
        go_simp
      refine mix_eff rfl rfl (fun K hK => ?_)
      go_simp
      refine (HK.out y0).mono ?_
      rintro e w' ⟨rfl, rfl⟩
      refine hK _ _ (fun _ h => h) ?_
      clear hK K
      rw [show endsB (wb cb) (wb sb) R = OK from HOK.out]
      repeat (refine mix_pure rfl rfl (fun K hK => ?_); go_simp; refine hK _ ?_; clear hK K)
      refine mix_eff rfl rfl (fun K hK => ?_)
      refine step_store_row rfl 59 _ _ rfl _ _ rfl rfl 59 _ mb0 (by exact gsize_down) (by simp) (by simp [Value.oneCell']) ?_
      have hub : Upd w.heap.size y0 (y0.setRow w.heap.size #[.int .i64 (wb cb), .int .i64 (wb sb), .int .u64 (wb R), .slice A13 L.length c13]) := (Upd.refl _ y0).setRow _
      have mbG1 := mbG.upd hub (by omega)
      have mb1 := mb0.row #[.int .i64 (wb cb), .int .i64 (wb sb), .int .u64 (wb R), .slice A13 L.length c13]
      have hb1 := below_setRow hb0 (Nat.le_refl _) #[.int .i64 (wb cb), .int .i64 (wb sb), .int .u64 (wb R), .slice A13 L.length c13]
      have hR14 := hR13.upd hub (fun a ha => by have := (hB13 a ha).1; omega)
      refine hK _ _ (fun _ _ => ⟨⟨mbG1.cell 0, mbG1.cell 1, mbG1.cell 2, mbG1.cell 3⟩, below_cell hb1 HC0.out⟩) ?_
      generalize y0.setRow w.heap.size #[.int .i64 (wb cb), .int .i64 (wb sb), .int .u64 (wb R), .slice A13 L.length c13] = y1 at *
      clear hK K hub mb0 hb0 hR13 mbG
      repeat (refine mix_pure rfl rfl (fun K hK => ?_); go_simp; refine hK _ ?_; clear hK K)
      refine mix_nil ?_
      go_wp2_with fail
      refine bodyPost_ret (v := .tuple #[.agg #[.int .i64 (wb cb), .int .i64 (wb sb), .int .u64 (wb R), .slice A13 L.length c13], .bool OK]) (results_cell_tmp rfl _ _ _ _ _ _ _ _ rfl rfl mb1 Try.underlying59 rfl (by exact gsize_down)) rfl ?_
      exact HPOST.out _ _ ⟨A13, c13, rfl, hc13, hR14⟩ hb1
    | false =>
      go_wp2_with fail
      refine mix_start (fun w' => (w'.cell? ⟨G, 0, none⟩ = some (.int .i64 (wb cb)) ∧ w'.cell? ⟨G, 1, none⟩ = some (.int .i64 (wb sb)) ∧ w'.cell? ⟨G, 2, none⟩ = some (.int .u64 (wb R)) ∧ w'.cell? ⟨G, 3, none⟩ = some (.slice A13 L.length c13)) ∧ w'.cell? ⟨g0, off, none⟩ = some (.int .u8 (wb kb))) (List.range 16) [12, 14] [0, 3, 7, 9, 11] [] (by kernel_rfl) (by kernel_rfl) (fun d _ _ _ _ h => by cases d <;> exact h) ⟨⟨k0, k1, k2, k3⟩, hc0⟩ ?_
      replace mb0 := mb0.drew
      replace mbG := mbG.drew
      replace hb0 := hb0.drew
      replace hR13 : Rd xf.drew .u8 A13 L := hR13
      clear k0 k1 k2 k3 hc0
      generalize xf.drew = y0 at *
      repeat (refine mix_pure rfl rfl (fun K hK => ?_); go_simp; refine hK _ ?_; clear hK K)
      refine mix_read (.agg #[.int .i64 (wb cb), .int .i64 (wb sb), .int .u64 (wb R), .slice A13 L.length c13]) rfl rfl rfl rfl (fun w' hS => ?_) ?_
      · obtain ⟨⟨k0, k1, k2, k3⟩, -⟩ := hS
        go_simp
      repeat (refine mix_pure rfl rfl (fun K hK => ?_); go_simp; refine hK _ ?_; clear hK K)
      refine mix_read (.int .u8 (wb kb)) rfl rfl rfl rfl (fun w' hS => ?_) ?_
      · have k5 := hS.2
        go_simp
      repeat (refine mix_pure rfl rfl (fun K hK => ?_); go_simp; refine hK _ ?_; clear hK K)
      rw [hq] at HOK
      have hOK : OK = false := by have := HOK.out; simpa using this.symm
      replace hOK := Lib.hid hOK
      refine mix_skip rfl (by kernel_rfl) ?_
      repeat (refine mix_pure rfl rfl (fun K hK => ?_); go_simp; refine hK _ ?_; clear hK K)
      refine mix_eff rfl rfl (fun K hK => ?_)
      refine step_store_row rfl 59 _ _ rfl _ _ rfl rfl 59 _ mb0 (by exact gsize_down) (by simp) (by simp [Value.oneCell']) ?_
      have hub : Upd w.heap.size y0 (y0.setRow w.heap.size #[.int .i64 (wb cb), .int .i64 (wb sb), .int .u64 (wb R), .slice A13 L.length c13]) := (Upd.refl _ y0).setRow _
      have mbG1 := mbG.upd hub (by omega)
      have mb1 := mb0.row #[.int .i64 (wb cb), .int .i64 (wb sb), .int .u64 (wb R), .slice A13 L.length c13]
      have hb1 := below_setRow hb0 (Nat.le_refl _) #[.int .i64 (wb cb), .int .i64 (wb sb), .int .u64 (wb R), .slice A13 L.length c13]
      have hR14 := hR13.upd hub (fun a ha => by have := (hB13 a ha).1; omega)
      refine hK _ _ (fun _ _ => ⟨⟨mbG1.cell 0, mbG1.cell 1, mbG1.cell 2, mbG1.cell 3⟩, below_cell hb1 HC0.out⟩) ?_
      generalize y0.setRow w.heap.size #[.int .i64 (wb cb), .int .i64 (wb sb), .int .u64 (wb R), .slice A13 L.length c13] = y1 at *
      clear hK K hub mb0 hb0 hR13 mbG
      repeat (refine mix_pure rfl rfl (fun K hK => ?_); go_simp; refine hK _ ?_; clear hK K)
      refine mix_nil ?_
      go_wp2_with fail
      refine bodyPost_ret (v := .tuple #[.agg #[.int .i64 (wb cb), .int .i64 (wb sb), .int .u64 (wb R), .slice A13 L.length c13], .bool false]) (results_cell_tmp rfl _ _ _ _ _ _ _ _ rfl rfl mb1 Try.underlying59 rfl (by exact gsize_down)) rfl ?_
      have hp := HPOST.out _ _ ⟨A13, c13, rfl, hc13, hR14⟩ hb1
      rw [hOK.out] at hp
      exact hp
end Go.Proofs.Ytjnbgoiaocpcjaa
