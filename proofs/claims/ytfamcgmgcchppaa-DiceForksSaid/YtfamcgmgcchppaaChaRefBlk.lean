/- The reference's block. -/
import Derived.Test.YtfamcgmgcchppaaChaPlaces
namespace Go.Proofs.Ytfamcgmgcchppaa
open Go.RowKit
theorem base0ref_encs : encs .u32 (base0 0#32) = #[Value.int IntKind.u32 1634760805, Value.int IntKind.u32 857760878, Value.int IntKind.u32 2036477234,
      Value.int IntKind.u32 1797285236, Value.int IntKind.u32 0, Value.int IntKind.u32 0, Value.int IntKind.u32 0,
      Value.int IntKind.u32 0, Value.int IntKind.u32 0, Value.int IntKind.u32 0, Value.int IntKind.u32 0,
      Value.int IntKind.u32 0, Value.int IntKind.u32 0, Value.int IntKind.u32 0, Value.int IntKind.u32 0,
      Value.int IntKind.u32 0] := rfl
attribute [local go_sem] World.cell?_setCell_other conv32_8 shr8 shr16 shr24 add_u32
set_option maxRecDepth 100000 in
set_option maxHeartbeats 6000000 in
theorem refBlock_any (key nonce : List (BitVec 8)) (ctr : BitVec 32) (hk : key.length = 32) (hn : nonce.length = 12) (w : World) :
   Calls Try.prog 29 #[.agg (encs .u8 key), .int .u32 (wb ctr), .agg (encs .u8 nonce)] w fun e w' => e = .returned (.agg (encs .u8 (chBlock key ctr nonce))) ∧ Below w.heap.size w w' := by
  have HK : Hid (key.length = 32) := hk
  have HN : Hid (nonce.length = 12) := hn
  clear hk hn
  go_enter Try.func29, Try.ntmps29
  go_wp2
  go_loopw [8] (fun i wr => ∃ k : Nat, k ≤ 8 ∧ i = .int .i64 k ∧ Blk wr w.heap.size (encs .u8 key) 41 ∧ Blk wr (w.heap.size + 1) (encs .u8 nonce) 74 ∧ Blk wr (w.heap.size + 1 + 1) (encs .u8 zeros64) 70 ∧ Blk wr (w.heap.size + 1 + 1 + 1) (encs .u32 (fillW 4 key (base0 0#32) k)) 89 ∧ Below w.heap.size w wr) (fun i _ => 8 - (intOf i).toNat)
  case atStart =>
    refine ⟨0, by omega, rfl, ?_, ?_, ?_, ?_, ?_⟩
    · repeat' (first | exact Blk.new_at _ _ _ _ (by simp; done) | refine Blk.alloc ?_ _)
    · repeat' (first | exact Blk.new_at _ _ _ _ (by simp; done) | refine Blk.alloc ?_ _)
    · repeat' (first | exact Blk.new_at _ _ _ _ (by simp; done) | refine Blk.alloc ?_ _)
    · repeat' (first | exact Blk.new_at _ _ _ _ (by simp; done) | refine Blk.alloc ?_ _)
    · repeat' (first | exact Below.refl _ _ | refine Below.alloc ?_ ?_ _ | (simp; done) | (simp; omega))
  case round =>
    obtain ⟨k, hk, rfl, hB0, hB1, hB2, hB3, hb⟩ := hrel
    by_cases hlt : k < 8
    · have h0 := hB0.word (4 * k) (by rw [HK.out]; omega)
      have h1 := hB0.word (4 * k + 1) (by rw [HK.out]; omega)
      have h2 := hB0.word (4 * k + 2) (by rw [HK.out]; omega)
      have h3 := hB0.word (4 * k + 3) (by rw [HK.out]; omega)
      have l0 : (0 : Int) ≤ 4 * (k : Int) := by omega
      have l1 : 4 * (k : Int) ≤ 32 := by omega
      have l2 : (k : Int) < 8 := by omega
      go_wp2_with fail
      refine (word_any _ _ _ _ _ _ _ _ _ (by omega) h0 h1 h2 h3).mono ?_
      rintro e w' ⟨rfl, m, rfl⟩
      clear h0 h1 h2 h3
      have hB3' : Blk (wr.drewN m) (w.heap.size + 1 + 1 + 1) (encs .u32 (fillW 4 key (base0 0#32) k)) 89 := hB3
      have h4 := hB3'.word (4 + k) (by rw [fillW_length]; simp [base0]; omega)
      have h5 := hB3'.frozen (4 + k)
      go_wp2_with fail
      clear h4 h5
      go_roundw
      case rel =>
        exact ⟨k + 1, by omega, by go_num, hB0.farAt (by omega) _ _, hB1.farAt (by omega) _ _, hB2.farAt (by omega) _ _, hB3.put (4 + k) (wd key k), below_setCell (below_drewN hb m) (by omega) _ _⟩
      case measure => simp [intOf]; omega
    · obtain rfl : k = 8 := by omega
      have HF : Hid ((fillW 4 key (base0 0#32) 8).length = 16) := by
        have : (fillW 4 key (base0 0#32) 8).length = 16 := by rw [fillW_length]; rfl
        exact this
      have h4 := hB3.word 12 (by rw [HF.out]; omega)
      have h5 := hB3.frozen 12
      go_wp2
      clear h4 h5
      have hB3' := hB3.put 12 ctr
      replace hB0 := hB0.farAt (g' := w.heap.size + 1 + 1 + 1) (by omega) 12 (.int .u32 (wb ctr))
      replace hB1 := hB1.farAt (g' := w.heap.size + 1 + 1 + 1) (by omega) 12 (.int .u32 (wb ctr))
      replace hB2 := hB2.farAt (g' := w.heap.size + 1 + 1 + 1) (by omega) 12 (.int .u32 (wb ctr))
      replace hb := below_setCell hb (g := w.heap.size + 1 + 1 + 1) (by omega) 12 (.int .u32 (wb ctr))
      clear hB3
      generalize wr.setCell ⟨w.heap.size + 1 + 1 + 1, 12, none⟩ (.int .u32 (wb ctr)) = w1 at *
      go_loopw [9] (fun i wr => ∃ k : Nat, k ≤ 3 ∧ i = .int .i64 k ∧ Blk wr w.heap.size (encs .u8 key) 41 ∧ Blk wr (w.heap.size + 1) (encs .u8 nonce) 74 ∧ Blk wr (w.heap.size + 1 + 1) (encs .u8 zeros64) 70 ∧ Blk wr (w.heap.size + 1 + 1 + 1) (encs .u32 (fillW 13 nonce ((fillW 4 key (base0 0#32) 8).set 12 ctr) k)) 89 ∧ Below w.heap.size w wr) (fun i _ => 3 - (intOf i).toNat)
      case atStart => exact ⟨0, by omega, rfl, hB0, hB1, hB2, hB3', hb⟩
      case round =>
        clear hB0 hB1 hB2 hB3' hb hk hlt
        obtain ⟨k, hk, rfl, hB0, hB1, hB2, hB3, hb⟩ := hrel
        have HG : Hid ((fillW 13 nonce ((fillW 4 key (base0 0#32) 8).set 12 ctr) k).length = 16) := by
          have : (fillW 13 nonce ((fillW 4 key (base0 0#32) 8).set 12 ctr) k).length = 16 := by rw [fillW_length, List.length_set]; exact HF.out
          exact this
        by_cases hlt : k < 3
        · have h0 := hB1.word (4 * k) (by rw [HN.out]; omega)
          have h1 := hB1.word (4 * k + 1) (by rw [HN.out]; omega)
          have h2 := hB1.word (4 * k + 2) (by rw [HN.out]; omega)
          have h3 := hB1.word (4 * k + 3) (by rw [HN.out]; omega)
          have l0 : (0 : Int) ≤ 4 * (k : Int) := by omega
          have l1 : 4 * (k : Int) ≤ 12 := by omega
          have l2 : (k : Int) < 3 := by omega
          go_wp2_with fail
          refine (word_any _ _ _ _ _ _ _ _ _ (by omega) h0 h1 h2 h3).mono ?_
          rintro e w' ⟨rfl, m, rfl⟩
          clear h0 h1 h2 h3
          have hB3' : Blk (wr.drewN m) (w.heap.size + 1 + 1 + 1) (encs .u32 (fillW 13 nonce ((fillW 4 key (base0 0#32) 8).set 12 ctr) k)) 89 := hB3
          have h4 := hB3'.word (13 + k) (by rw [HG.out]; omega)
          have h5 := hB3'.frozen (13 + k)
          go_wp2_with fail
          clear h4 h5
          go_roundw
          case rel =>
            first | exact ⟨k + 1, by omega, by go_num, hB0.farAt (by omega) _ _, hB1.farAt (by omega) _ _, hB2.farAt (by omega) _ _, hB3.put (13 + k) (wd nonce k), below_setCell (below_drewN hb m) (by omega) _ _⟩ | ((repeat apply Exists.intro); exact ⟨⟨k + 1, by omega, by go_num, hB0.farAt (by omega) _ _, hB1.farAt (by omega) _ _, hB2.farAt (by omega) _ _, hB3.put (13 + k) (wd nonce k), below_setCell (below_drewN hb m) (by omega) _ _⟩, rfl⟩)
          case measure => simp [intOf]; omega
        · obtain rfl : k = 3 := by omega
          rw [state0_ref] at hB3
          clear HG HF
          have HL : Hid ((state0 key ctr nonce).length = 16) := state0_length key ctr nonce
          have HC : Hid (chBlock key ctr nonce = outK (roundK (state0 key ctr nonce) 10) (state0 key ctr nonce) 16) := rfl
          generalize state0 key ctr nonce = s0 at *
          go_wp2_with (first | (refine wpList_load_row rfl 89 _ rfl _ rfl 89 _ (0, 0) _ hB3 Try.underlying89 rfl (by rw [encs_size, HL.out]; exact size45) ?_) | (refine wpList_store_last rfl 89 _ _ rfl _ _ (encs .u32 s0) 89 rfl rfl (by simp; done) (by rw [encs_size, HL.out]; exact size45) (by rw [encs_size, HL.out]; rfl) (encs_one _ _) ?_))
          obtain ⟨G, hG⟩ : ∃ G : Nat, G = wr.heap.size := ⟨_, rfl⟩
          have hG4 : w.heap.size + 4 ≤ G := by have := hB3.lt; omega
          have hx : Blk (wr.alloc (.cells (encs .u32 s0) 89)) G (encs .u32 s0) 89 := Blk.new_at _ _ _ _ hG
          replace hB2 := hB2.alloc (.cells (encs .u32 s0) 89)
          replace hB3 := hB3.alloc (.cells (encs .u32 s0) 89)
          replace hb := hb.alloc hb.size (.cells (encs .u32 s0) 89)
          rw [← hG]
          generalize wr.alloc (.cells (encs .u32 s0) 89) = w2 at *
          clear hG hB0 hB1
          go_loopw [11] (fun i wr => ∃ n : Nat, n ≤ 10 ∧ i = .int .i64 n ∧ Blk wr (w.heap.size + 1 + 1) (encs .u8 zeros64) 70 ∧ Blk wr (w.heap.size + 1 + 1 + 1) (encs .u32 s0) 89 ∧ Blk wr G (encs .u32 (roundK s0 n)) 89 ∧ Below w.heap.size w wr) (fun i _ => 10 - (intOf i).toNat)
          case atStart => exact ⟨0, by omega, rfl, hB2, hB3, hx, hb⟩
          case round =>
            clear hB2 hB3 hx hb hk hlt
            obtain ⟨n, hn, rfl, hB2, hB3, hx, hb⟩ := hrel
            by_cases hlt : n < 10
            · have i1 : (n : Int) < 10 := by omega
              have HR : Hid (roundK s0 (n + 1) = plK (roundK s0 n) 8) := (plK_all (roundK s0 n)).symm
              have HRL : Hid ((roundK s0 n).length = 16) := (roundK_length s0 n).trans HL.out
              generalize roundK s0 n = rn at *
              go_wp2_with fail
              refine (places_any _).mono ?_
              rintro e w3 ⟨rfl, hb3⟩
              replace hB2 := hB2.below hb3 hB2.lt
              replace hB3 := hB3.below hb3 hB3.lt
              replace hx := hx.below hb3 hx.lt
              replace hb := hb.trans (hb3.mono hb.size)
              clear hb3
              go_wp2_with fail
              go_loopw [51] (fun i wr => ∃ k : Nat, k ≤ 8 ∧ i = .int .i64 k ∧ Blk wr (w.heap.size + 1 + 1) (encs .u8 zeros64) 70 ∧ Blk wr (w.heap.size + 1 + 1 + 1) (encs .u32 s0) 89 ∧ Blk wr G (encs .u32 (plK rn k)) 89 ∧ Below w.heap.size w wr) (fun i _ => 8 - (intOf i).toNat)
              case atStart => exact ⟨0, by omega, rfl, hB2, hB3, hx, hb⟩
              case round =>
                clear hB2 hB3 hx hb
                obtain ⟨k, hk, rfl, hB2, hB3, hx, hb⟩ := hrel
                by_cases hkt : k < 8
                · have i2 : (k : Int) < 8 := by omega
                  have hix := fun wx => run_index_places k hkt wx
                  obtain ⟨hp4, hp16⟩ := placesL_at k hkt
                  have HP4 : Hid ((placesL.getD k []).length = 4) := hp4
                  have HP16 : Hid (∀ i, (placesL.getD k []).getD i 0 < 16) := hp16
                  have HK1 : Hid (plK rn (k + 1) = setP (plK rn k) (placesL.getD k []) (quQ (plK rn k) (placesL.getD k [])).list 4) := rfl
                  have HX : Hid ((plK rn k).length = 16) := (plK_length rn k).trans HRL.out
                  clear hp4 hp16
                  generalize placesL.getD k [] = p at *
                  generalize plK rn k = x at *
                  go_wp2_with (refine wpList_store_last rfl 91 _ _ rfl _ _ (pcs p) 91 rfl rfl (by simp; done) (by rw [pcs_size, HP4.out]; exact size50) (by rw [pcs_size, HP4.out]; rfl) (pcs_one _) ?_)
                  obtain ⟨H, hH⟩ : ∃ H : Nat, H = wr.heap.size := ⟨_, rfl⟩
                  have hGH : G < H := by have := hx.lt; omega
                  have hp : Blk (wr.alloc (.cells (pcs p) 91)) H (pcs p) 91 := Blk.new_at _ _ _ _ hH
                  replace hB2 := hB2.alloc (.cells (pcs p) 91)
                  replace hB3 := hB3.alloc (.cells (pcs p) 91)
                  replace hx := hx.alloc (.cells (pcs p) 91)
                  replace hb := hb.alloc hb.size (.cells (pcs p) 91)
                  rw [← hH]
                  generalize wr.alloc (.cells (pcs p) 91) = w4 at *
                  clear hH hix
                  simp only [Act.put]
                  go_cut [14, 51] from 51 to 83 (fun v14 v51 wx => v51 = .int .i64 k ∧ ∃ J, v14 = .pointer (some ⟨J, 0, none⟩) ∧ H < J ∧ Blk wx J (encs .u32 (quQ x p).list) 94 ∧ Blk wx H (pcs p) 91 ∧ Blk wx (w.heap.size + 1 + 1) (encs .u8 zeros64) 70 ∧ Blk wx (w.heap.size + 1 + 1 + 1) (encs .u32 s0) 89 ∧ Blk wx G (encs .u32 x) 89 ∧ Below w.heap.size w wx)
                  case first =>
                    have hH2 := hp.lt
                    have c0 := hp.cell 0
                    have c1 := hp.cell 1
                    have c2 := hp.cell 2
                    have c3 := hp.cell 3
                    rw [pcs_get p _ (by rw [HP4.out]; omega)] at c0 c1 c2 c3
                    have HQ : Hid (quQ x p = qr (x.getD (p.getD 0 0) 0) (x.getD (p.getD 1 0) 0) (x.getD (p.getD 2 0) 0) (x.getD (p.getD 3 0) 0)) := rfl
                    have b0 := HP16.out 0
                    have b1 := HP16.out 1
                    have b2 := HP16.out 2
                    have b3 := HP16.out 3
                    generalize p.getD 0 0 = p0 at *
                    generalize p.getD 1 0 = p1 at *
                    generalize p.getD 2 0 = p2 at *
                    generalize p.getD 3 0 = p3 at *
                    have d0 := hx.word p0 (by rw [HX.out]; omega)
                    have d1 := hx.word p1 (by rw [HX.out]; omega)
                    have d2 := hx.word p2 (by rw [HX.out]; omega)
                    have d3 := hx.word p3 (by rw [HX.out]; omega)
                    generalize x.getD p0 0 = x0 at *
                    generalize x.getD p1 0 = x1' at *
                    generalize x.getD p2 0 = x2 at *
                    generalize x.getD p3 0 = x3 at *
                    generalize quQ x p = q at *
                    have b0' : (p0 : Int) < 16 := by omega
                    have b1' : (p1 : Int) < 16 := by omega
                    have b2' : (p2 : Int) < 16 := by omega
                    have b3' : (p3 : Int) < 16 := by omega
                    refine mix_plan (fun w' => Below w4.heap.size w4 w') (Plan.of (List.range 17) (.fork 17 18 (.step 18 (.step 19 .done)) (.step 17 (.step 19 .done)))) [17, 18, 19] [1, 3, 5, 7, 9, 11, 13, 15] [] (by kernel_rfl) (by kernel_rfl) (fun d _ _ _ _ h => by cases d <;> exact h) (Below.refl _ _).drew ?_
                    repeat (refine mix_pure rfl rfl (fun K hK => ?_); go_simp; refine hK _ ?_; clear hK K)
                    refine mix_read (.int .i64 (p0 : Int)) rfl rfl rfl rfl (fun w' hS => ?_) ?_
                    · have hc' := below_cell hS c0
                      go_simp
                    repeat (refine mix_pure rfl rfl (fun K hK => ?_); go_simp; refine hK _ ?_; clear hK K)
                    refine mix_read (.int .u32 (wb x0)) rfl rfl rfl rfl (fun w' hS => ?_) ?_
                    · have hc' := below_cell hS d0
                      go_simp
                    repeat (refine mix_pure rfl rfl (fun K hK => ?_); go_simp; refine hK _ ?_; clear hK K)
                    refine mix_read (.int .i64 (p1 : Int)) rfl rfl rfl rfl (fun w' hS => ?_) ?_
                    · have hc' := below_cell hS c1
                      go_simp
                    repeat (refine mix_pure rfl rfl (fun K hK => ?_); go_simp; refine hK _ ?_; clear hK K)
                    refine mix_read (.int .u32 (wb x1')) rfl rfl rfl rfl (fun w' hS => ?_) ?_
                    · have hc' := below_cell hS d1
                      go_simp
                    repeat (refine mix_pure rfl rfl (fun K hK => ?_); go_simp; refine hK _ ?_; clear hK K)
                    refine mix_read (.int .i64 (p2 : Int)) rfl rfl rfl rfl (fun w' hS => ?_) ?_
                    · have hc' := below_cell hS c2
                      go_simp
                    repeat (refine mix_pure rfl rfl (fun K hK => ?_); go_simp; refine hK _ ?_; clear hK K)
                    refine mix_read (.int .u32 (wb x2)) rfl rfl rfl rfl (fun w' hS => ?_) ?_
                    · have hc' := below_cell hS d2
                      go_simp
                    repeat (refine mix_pure rfl rfl (fun K hK => ?_); go_simp; refine hK _ ?_; clear hK K)
                    refine mix_read (.int .i64 (p3 : Int)) rfl rfl rfl rfl (fun w' hS => ?_) ?_
                    · have hc' := below_cell hS c3
                      go_simp
                    repeat (refine mix_pure rfl rfl (fun K hK => ?_); go_simp; refine hK _ ?_; clear hK K)
                    refine mix_read (.int .u32 (wb x3)) rfl rfl rfl rfl (fun w' hS => ?_) ?_
                    · have hc' := below_cell hS d3
                      go_simp
                    repeat (refine mix_pure rfl rfl (fun K hK => ?_); go_simp; refine hK _ ?_; clear hK K)
                    clear c0 c1 c2 c3 d0 d1 d2 d3
                    replace hb : Below w.heap.size w w4.drew := hb.drew
                    replace hB2 : Blk w4.drew (w.heap.size + 1 + 1) (encs .u8 zeros64) 70 := hB2
                    replace hB3 : Blk w4.drew (w.heap.size + 1 + 1 + 1) (encs .u32 s0) 89 := hB3
                    replace hx : Blk w4.drew G (encs .u32 x) 89 := hx
                    replace hp : Blk w4.drew H (pcs p) 91 := hp
                    have hS : Below w4.heap.size w4 w4.drew := (Below.refl _ _).drew
                    have hH3 : H < w4.drew.heap.size := hp.lt
                    generalize w4.drew = w5 at *
                    refine mix_fork rfl rfl (fun K hK => ?_) (fun K hK => ?_)
                    · go_simp
                      refine (refQuarter_any _ _ _ _ _).mono ?_
                      rintro e w6 ⟨rfl, hb6⟩
                      rw [← HQ.out]
                      refine hK _ _ (fun _ h => h.trans (hb6.mono h.size)) ?_
                      clear hK K
                      replace hB2 := hB2.below hb6 hB2.lt
                      replace hB3 := hB3.below hb6 hB3.lt
                      replace hx := hx.below hb6 hx.lt
                      replace hp := hp.below hb6 hp.lt
                      replace hb := hb.trans (hb6.mono hb.size)
                      have hS6 := hS.trans (hb6.mono hS.size)
                      have hsz := hb6.size
                      clear hb6
                      refine mix_eff rfl rfl (fun K hK => ?_)
                      go_simp
                      refine hK _ _ (fun _ h => h.alloc h.size _) ?_
                      clear hK K
                      refine mix_eff rfl rfl (fun K hK => ?_)
                      go_simp
                      refine hK _ _ (fun _ _ => hS6.alloc hS6.size _) ?_
                      clear hK K
                      refine mix_nil ?_
                      go_wp2
                      go_meet
                      exact ⟨rfl, w6.heap.size, rfl, by omega, Blk.new _ _ _, hp.alloc _, hB2.alloc _, hB3.alloc _, hx.alloc _, hb.alloc hb.size _⟩
                    · go_simp
                      refine hK _ _ (fun _ h => h.alloc h.size _) ?_
                      clear hK K
                      refine mix_eff rfl rfl (fun K hK => ?_)
                      go_simp
                      refine (refQuarter_any _ _ _ _ _).mono ?_
                      rintro e w6 ⟨rfl, hb6⟩
                      rw [← HQ.out]
                      obtain ⟨J, hJ⟩ : ∃ J : Nat, J = w5.heap.size := ⟨_, rfl⟩
                      have hq : Blk w6 J (encs .u32 [0#32, 0#32, 0#32, 0#32]) 94 := (Blk.new_at _ _ _ _ hJ).below hb6 (by rw [hJ]; simp)
                      refine hK _ _ (fun _ h => h.trans (hb6.mono h.size)) ?_
                      clear hK K
                      replace hB2 := (hB2.alloc _).below hb6 (by have := hB2.lt; simp; omega)
                      replace hB3 := (hB3.alloc _).below hb6 (by have := hB3.lt; simp; omega)
                      replace hx := (hx.alloc _).below hb6 (by have := hx.lt; simp; omega)
                      replace hp := (hp.alloc _).below hb6 (by have := hp.lt; simp; omega)
                      replace hb := (hb.alloc hb.size _).trans (hb6.mono (by have := hb.size; simp; omega))
                      clear hb6
                      rw [← hJ]
                      have hHJ : H < J := by omega
                      have hJ4 : w4.heap.size ≤ J := by have := hS.size; omega
                      have hJ0 : w.heap.size ≤ J := by omega
                      clear hJ
                      have e0 := hq.word 0 (by simp)
                      have e1 := hq.word 1 (by simp)
                      have e2 := hq.word 2 (by simp)
                      have e3 := hq.word 3 (by simp)
                      have f0 := hq.frozen 0
                      have f1 := hq.frozen 1
                      have f2 := hq.frozen 2
                      have f3 := hq.frozen 3
                      refine mix_eff rfl rfl (fun K hK => ?_)
                      go_simp
                      refine hK _ _ (fun _ h => below_setCell (below_setCell (below_setCell (below_setCell h hJ4 _ _) hJ4 _ _) hJ4 _ _) hJ4 _ _) ?_
                      clear hK K
                      refine mix_nil ?_
                      go_wp2
                      go_meet
                      exact ⟨rfl, J, rfl, hHJ, (((hq.put 0 q.a).put 1 q.b).put 2 q.c).put 3 q.d, (((hp.farAt (by omega) _ _).farAt (by omega) _ _).farAt (by omega) _ _).farAt (by omega) _ _, (((hB2.farAt (by omega) _ _).farAt (by omega) _ _).farAt (by omega) _ _).farAt (by omega) _ _, (((hB3.farAt (by omega) _ _).farAt (by omega) _ _).farAt (by omega) _ _).farAt (by omega) _ _, (((hx.farAt (by omega) _ _).farAt (by omega) _ _).farAt (by omega) _ _).farAt (by omega) _ _, below_setCell (below_setCell (below_setCell (below_setCell hb hJ0 _ _) hJ0 _ _) hJ0 _ _) hJ0 _ _⟩
                  case rest =>
                    clear hp hB2 hB3 hx hb
                    obtain ⟨rfl, J, rfl, hHJ, hq, hp, hB2, hB3, hx, hb⟩ := hcut
                    have HQL : Hid ((quQ x p).list.length = 4) := rfl
                    generalize (quQ x p).list = q at *
                    go_wp2_with fail
                    go_loopw [72] (fun i wr => ∃ t : Nat, t ≤ 4 ∧ i = .int .i64 t ∧ Blk wr J (encs .u32 q) 94 ∧ Blk wr H (pcs p) 91 ∧ Blk wr (w.heap.size + 1 + 1) (encs .u8 zeros64) 70 ∧ Blk wr (w.heap.size + 1 + 1 + 1) (encs .u32 s0) 89 ∧ Blk wr G (encs .u32 (setP x p q t)) 89 ∧ Below w.heap.size w wr) (fun i _ => 4 - (intOf i).toNat)
                    case atStart => exact ⟨0, by omega, rfl, hq, hp, hB2, hB3, hx, hb⟩
                    case round =>
                      clear hq hp hB2 hB3 hx hb
                      obtain ⟨t, ht, rfl, hq, hp, hB2, hB3, hx, hb⟩ := hrel
                      by_cases htt : t < 4
                      · have i3 : (t : Int) < 4 := by omega
                        have HS1 : Hid (setP x p q (t + 1) = (setP x p q t).set (p.getD t 0) (q.getD t 0)) := rfl
                        have HSL : Hid ((setP x p q t).length = 16) := (setP_length x p q t).trans HX.out
                        generalize setP x p q t = y at *
                        have c0 := hp.cell t
                        rw [pcs_get p _ (by rw [HP4.out]; omega)] at c0
                        have d0 := hq.word t (by rw [HQL.out]; omega)
                        have b0 := HP16.out t
                        generalize p.getD t 0 = p0 at *
                        generalize q.getD t 0 = q0 at *
                        have b0' : (p0 : Int) < 16 := by omega
                        have e0 := hx.word p0 (by rw [HSL.out]; omega)
                        have f0 := hx.frozen p0
                        go_wp2_with fail
                        refine mix_start (fun w' => Below wr.heap.size wr w') (List.range 8) [7] [2, 5] [7] (by kernel_rfl) (by kernel_rfl) (fun d _ _ _ _ h => by cases d <;> exact h) (Below.refl _ _).drew ?_
                        repeat (refine mix_pure rfl rfl (fun K hK => ?_); go_simp; refine hK _ ?_; clear hK K)
                        refine mix_read (.int .i64 (p0 : Int)) rfl rfl rfl rfl (fun w' hS => ?_) ?_
                        · have hc' := below_cell hS c0
                          go_simp
                        repeat (refine mix_pure rfl rfl (fun K hK => ?_); go_simp; refine hK _ ?_; clear hK K)
                        refine mix_read (.int .u32 (wb q0)) rfl rfl rfl rfl (fun w' hS => ?_) ?_
                        · have hc' := below_cell hS d0
                          go_simp
                        repeat (refine mix_pure rfl rfl (fun K hK => ?_); go_simp; refine hK _ ?_; clear hK K)
                        refine mix_ds rfl rfl rfl (fun K hK => ?_)
                        go_simp
                        refine hK _ _ ?_
                        clear hK K
                        refine mix_nil ?_
                        clear c0 d0 e0 f0
                        go_wp2
                        go_roundw
                        case rel =>
                          have q1 := hx.put p0 q0
                          rw [← HS1.out] at q1
                          have g0 : w.heap.size ≤ G := by omega
                          first | exact ⟨t + 1, by omega, by go_num, hq.farAt (by omega) _ _, hp.farAt (by omega) _ _, hB2.farAt (by omega) _ _, hB3.farAt (by omega) _ _, q1, (below_setCell hb g0 _ _).drew⟩ | ((repeat apply Exists.intro); exact ⟨⟨t + 1, by omega, by go_num, hq.farAt (by omega) _ _, hp.farAt (by omega) _ _, hB2.farAt (by omega) _ _, hB3.farAt (by omega) _ _, q1, (below_setCell hb g0 _ _).drew⟩, rfl⟩)
                        case measure => simp [intOf]; omega
                      · obtain rfl : t = 4 := by omega
                        go_wp2
                        go_roundw
                        case rel =>
                          rw [← HK1.out] at hx
                          first | exact ⟨k + 1, by omega, by go_num, hB2, hB3, hx, hb⟩ | ((repeat apply Exists.intro); exact ⟨⟨k + 1, by omega, by go_num, hB2, hB3, hx, hb⟩, rfl⟩)
                        case measure => simp [intOf]; omega
                · obtain rfl : k = 8 := by omega
                  rw [← HR.out] at hx
                  go_wp2
                  go_roundw
                  case rel =>
                    first | exact ⟨n + 1, by omega, by go_num, hB2, hB3, hx, hb⟩ | ((repeat apply Exists.intro); exact ⟨⟨n + 1, by omega, by go_num, hB2, hB3, hx, hb⟩, rfl⟩)
                  case measure => simp [intOf]; omega
            · obtain rfl : n = 10 := by omega
              clear hn hlt
              have HR : Hid ((roundK s0 10).length = 16) := (roundK_length s0 10).trans HL.out
              generalize roundK s0 10 = r at *
              obtain ⟨wo, rfl⟩ : ∃ wo : World, wo = wr := ⟨_, rfl⟩
              have hgo := hx.lt
              go_wp2_with fail
              go_loopw [84] (fun i wr => ∃ k : Nat, k ≤ 16 ∧ i = .int .i64 k ∧ Blk wr (w.heap.size + 1 + 1) (encs .u8 zeros64) 70 ∧ Blk wr (w.heap.size + 1 + 1 + 1) (encs .u32 s0) 89 ∧ Blk wr G (encs .u32 r) 89 ∧ Blk wr wo.heap.size (encs .u8 (outK r s0 k)) 70 ∧ Below w.heap.size w wr) (fun i _ => 16 - (intOf i).toNat)
              case atStart => exact ⟨0, by omega, rfl, hB2.alloc _, hB3.alloc _, hx.alloc _, Blk.new _ _ _, hb.alloc hb.size _⟩
              case round =>
                have hsz2 := hb.size
                clear hB2 hB3 hx hb
                obtain ⟨k, hk, rfl, hB2, hB3, hx, hO, hb⟩ := hrel
                by_cases hkt : k < 16
                · have i2 : (k : Int) < 16 := by omega
                  have c0 := hx.word k (by rw [HR.out]; omega)
                  have c1 := hB3.word k (by rw [HL.out]; omega)
                  have HO1 : Hid (outK r s0 (k + 1) = put4 (outK r s0 k) k (r.getD k 0 + s0.getD k 0)) := rfl
                  have HOL : Hid ((outK r s0 k).length = 64) := outK_length r s0 k
                  generalize r.getD k 0 = rk at *
                  generalize s0.getD k 0 = sk at *
                  generalize outK r s0 k = o at *
                  go_wp2_with fail
                  refine mix_start (fun w' => Below wr.heap.size wr w') (List.range 8) [] [2, 5] [] (by kernel_rfl) (by kernel_rfl) (fun d _ _ _ _ h => by cases d <;> exact h) (Below.refl _ _).drew ?_
                  repeat (refine mix_pure rfl rfl (fun K hK => ?_); go_simp; refine hK _ ?_; clear hK K)
                  refine mix_read (.int .u32 (wb rk)) rfl rfl rfl rfl (fun w' hS => ?_) ?_
                  · have hc' := below_cell hS c0
                    go_simp
                  repeat (refine mix_pure rfl rfl (fun K hK => ?_); go_simp; refine hK _ ?_; clear hK K)
                  refine mix_read (.int .u32 (wb sk)) rfl rfl rfl rfl (fun w' hS => ?_) ?_
                  · have hc' := below_cell hS c1
                    go_simp
                  repeat (refine mix_pure rfl rfl (fun K hK => ?_); go_simp; refine hK _ ?_; clear hK K)
                  refine mix_nil ?_
                  clear c0 c1
                  replace hb : Below w.heap.size w wr.drew := hb.drew
                  replace hB2 : Blk wr.drew (w.heap.size + 1 + 1) (encs .u8 zeros64) 70 := hB2
                  replace hB3 : Blk wr.drew (w.heap.size + 1 + 1 + 1) (encs .u32 s0) 89 := hB3
                  replace hx : Blk wr.drew G (encs .u32 r) 89 := hx
                  replace hO : Blk wr.drew wo.heap.size (encs .u8 o) 70 := hO
                  generalize wr.drew = w5 at *
                  generalize rk + sk = nk at *
                  have g0 := hO.word (4 * k) (by rw [HOL.out]; omega)
                  have g1 := hO.word (4 * k + 1) (by rw [HOL.out]; omega)
                  have g2 := hO.word (4 * k + 2) (by rw [HOL.out]; omega)
                  have g3 := hO.word (4 * k + 3) (by rw [HOL.out]; omega)
                  have z0 := hO.frozen (4 * k)
                  have z1 := hO.frozen (4 * k + 1)
                  have z2 := hO.frozen (4 * k + 2)
                  have z3 := hO.frozen (4 * k + 3)
                  have j0 : 4 * (k : Int) < 64 := by omega
                  have j1 : 4 * (k : Int) + 1 < 64 := by omega
                  have j2 : 4 * (k : Int) + 2 < 64 := by omega
                  have j3 : 4 * (k : Int) + 3 < 64 := by omega
                  go_wp2
                  refine wp_loop_rounds 5 ?_
                  iterate 5 (rw [rounds_succ]; go_wp2)
                  clear g0 g1 g2 g3 z0 z1 z2 z3
                  go_roundw
                  case rel =>
                    have q0 := (((hO.put (4 * k) (nk.setWidth 8)).put (4 * k + 1) ((nk >>> 8).setWidth 8)).put (4 * k + 2) ((nk >>> 16).setWidth 8)).put (4 * k + 3) ((nk >>> 24).setWidth 8)
                    rw [show (((o.set (4 * k) (nk.setWidth 8)).set (4 * k + 1) ((nk >>> 8).setWidth 8)).set (4 * k + 2) ((nk >>> 16).setWidth 8)).set (4 * k + 3) ((nk >>> 24).setWidth 8) = outK r s0 (k + 1) from HO1.out.symm] at q0
                    have q3 := below_setCell (below_setCell (below_setCell (below_setCell hb hsz2 (4 * k) (.int .u8 (wb (nk.setWidth 8)))) hsz2 (4 * k + 1) (.int .u8 (wb ((nk >>> 8).setWidth 8)))) hsz2 (4 * k + 2) (.int .u8 (wb ((nk >>> 16).setWidth 8)))) hsz2 (4 * k + 3) (.int .u8 (wb ((nk >>> 24).setWidth 8)))
                    first | exact ⟨k + 1, by omega, by go_num, (((hB2.farAt (by omega) _ _).farAt (by omega) _ _).farAt (by omega) _ _).farAt (by omega) _ _, (((hB3.farAt (by omega) _ _).farAt (by omega) _ _).farAt (by omega) _ _).farAt (by omega) _ _, (((hx.farAt (by omega) _ _).farAt (by omega) _ _).farAt (by omega) _ _).farAt (by omega) _ _, q0, q3⟩ | ((repeat apply Exists.intro); exact ⟨⟨k + 1, by omega, by go_num, (((hB2.farAt (by omega) _ _).farAt (by omega) _ _).farAt (by omega) _ _).farAt (by omega) _ _, (((hB3.farAt (by omega) _ _).farAt (by omega) _ _).farAt (by omega) _ _).farAt (by omega) _ _, (((hx.farAt (by omega) _ _).farAt (by omega) _ _).farAt (by omega) _ _).farAt (by omega) _ _, q0, q3⟩, rfl⟩)
                  case measure => simp [intOf]; omega
                · obtain rfl : k = 16 := by omega
                  clear hk hkt
                  have HO : Hid ((outK r s0 16).length = 64) := outK_length r s0 16
                  rw [← HC.out] at hO HO
                  go_wp2_with (first | (refine wpList_load_row rfl 70 _ rfl _ rfl 70 _ (0, 0) _ hO Try.underlying70 rfl (by rw [encs_size, HO.out]; exact size30) ?_) | (refine wpList_store_row rfl 70 _ _ rfl _ _ rfl rfl 70 _ hB2 (by rw [encs_size, HO.out]; exact size30) (by rw [encs_size, encs_size, HO.out]; rfl) (encs_one _ _) ?_))
                  refine bodyPost_ret (results_cell_row rfl _ _ _ _ _ _ _ rfl (hB2.row _) Try.underlying70 rfl (by rw [encs_size, HO.out]; exact size30)) rfl ⟨rfl, below_setRow hb (by omega) _⟩
end Go.Proofs.Ytfamcgmgcchppaa
