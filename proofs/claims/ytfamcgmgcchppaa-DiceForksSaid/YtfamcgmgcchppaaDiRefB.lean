/- The reference's dice: Bytes. -/
import Derived.Test.YtfamcgmgcchppaaDiOne
namespace Go.Proofs.Ytfamcgmgcchppaa
open Go.RowKit
set_option linter.unusedVariables false
set_option linter.unusedSimpArgs false
def RDice (w : World) (g : Nat) (key : List (BitVec 8)) (t : Nat) : Prop := key.length = 32 ∧ Blk w g (diceL key t).toArray 43
theorem RDice.rd {w : World} {g : Nat} {key : List (BitVec 8)} {t : Nat} (h : RDice w g key t) : Rd w .u8 (some ⟨g, 0, none⟩) key := h.2.rdSeg [] [.int .i64 (t : Int)] (by simp [diceL]) rfl
theorem RDice.cell {w : World} {g : Nat} {key : List (BitVec 8)} {t : Nat} (h : RDice w g key t) : w.cell? ⟨g, 32, none⟩ = some (.int .i64 (t : Int)) := h.2.cellSeg (encL .u8 key) [] (by simp [diceL]) (by rw [encL_length, h.1])
theorem RDice.frozen {w : World} {g : Nat} {key : List (BitVec 8)} {t : Nat} (h : RDice w g key t) : w.frozen? ⟨g, 32, none⟩ = false := h.2.frozen 32
theorem RDice.set {w : World} {g : Nat} {key : List (BitVec 8)} {t : Nat} (h : RDice w g key t) (t' : Nat) : RDice (w.setCell ⟨g, 32, none⟩ (.int .i64 (t' : Int))) g key t' := by
  refine ⟨h.1, ?_⟩
  have := h.2.set 32 (.int .i64 (t' : Int))
  have e : (diceL key t).toArray.setIfInBounds 32 (.int .i64 (t' : Int)) = (diceL key t').toArray := by
    have hl : (encL .u8 key).length = 32 := by rw [encL_length, h.1]
    rw [List.setIfInBounds_toArray]
    congr 1
    unfold diceL
    rw [List.set_append_right _ _ (by omega), hl]
    rfl
  rwa [e] at this
theorem sizeRD : (Try.prog.info? 43).map (·.size) = some 33 := by kernel_rfl
theorem rblkN_any (key : List (BitVec 8)) (Q : Nat) (hk : key.length = 32) (w : World) :
    Calls Try.prog 29 #[.agg (encs .u8 key), .int .u32 (wb (BitVec.ofNat 32 Q)), .agg #[Value.int .u8 0, Value.int .u8 0, Value.int .u8 0, Value.int .u8 0, Value.int .u8 0, Value.int .u8 0, Value.int .u8 0, Value.int .u8 0, Value.int .u8 0, Value.int .u8 0, Value.int .u8 0, Value.int .u8 0]] w fun e w' => e = .returned (.agg (encs .u8 (blkN key Q))) ∧ Below w.heap.size w w' := by
  have h := refBlock_any key z12 (BitVec.ofNat 32 Q) hk rfl w
  have hz : encs .u8 z12 = #[Value.int .u8 0, Value.int .u8 0, Value.int .u8 0, Value.int .u8 0, Value.int .u8 0, Value.int .u8 0, Value.int .u8 0, Value.int .u8 0, Value.int .u8 0, Value.int .u8 0, Value.int .u8 0, Value.int .u8 0] := by rfl
  rw [hz] at h
  exact h
def RBytesD (w : World) (key : List (BitVec 8)) (t n : Nat) (e : Ending) (w' : World) : Prop := ∃ v, e = .returned (.tuple #[.agg (diceL key (t + n)).toArray, v]) ∧ OwnB w' w.heap.size v (strm key t n) ∧ Below w.heap.size w w'
theorem diceL_ones (k : List (BitVec 8)) (t : Nat) : (diceL k t).toArray.all (·.oneCell') = true := by
  rw [Array.all_eq_true_iff_forall_mem]
  intro v hv
  simp only [diceL, List.mem_toArray, List.mem_append, List.mem_cons, List.not_mem_nil, or_false] at hv
  rcases hv with hv | rfl
  · exact encL_one _ _ v hv
  · rfl
set_option maxRecDepth 100000 in
set_option maxHeartbeats 4000000 in
theorem rdbytes_any (key : List (BitVec 8)) (t n : Nat) (w : World) (hk : key.length = 32) (hn : n ≤ 1048576) (ht : t ≤ 1099511627776) :
    Calls Try.prog 17 #[.agg (diceL key t).toArray, .int .i64 n] w (RBytesD w key t n) := by
  have hmk := fun wx => run_make_words (P := Try.prog) 22 5 .u8 8 1 Try.underlying22 bytesT.hi n (by omega) (by omega) wx
  have hnonce := nonce0
  obtain ⟨H, hH⟩ : ∃ H, H = w.heap.size := ⟨_, rfl⟩
  have hz : (zeroValue 43).run Try.prog = fun w => .ok (.agg (diceL z32d 0).toArray) w := by funext w; kernel_rfl
  have KL : Hid (key.length = 32) := hk
  have SL := Lib.hid (strm_length key t n)
  have DL := Lib.hid (diceL_length key t hk)
  have DZ := Lib.hid (diceL_length z32d 0 rfl)
  clear hk
  go_enter Try.func17, Try.ntmps17
  go_wp2_with fail
  go_loopw [8] (fun i wr => ∃ (k : Nat) (B : List (BitVec 8)), k ≤ n ∧ i = .int .i64 k ∧ RDice wr w.heap.size key t ∧ Blk wr (w.heap.size + 1) (diceL z32d 0).toArray 43 ∧ Blk wr (w.heap.size + 1 + 1) (encs .u8 (fill (strm key t n) k)) 5 ∧ Blk wr (w.heap.size + 1 + 1 + 1) (encs .u8 B) 70 ∧ B.length = 64 ∧ (0 < k → B = blkN key ((t + k - 1) / 64)) ∧ Below w.heap.size w wr) (fun i _ => n - (intOf i).toNat)
  case atStart =>
    refine ⟨0, z64d, Nat.zero_le _, rfl, ⟨KL.out, ?_⟩, ?_, ?_, ?_, rfl, fun h => absurd h (Nat.lt_irrefl _), ?_⟩
    · repeat' (first | exact Blk.new_at _ _ _ _ (by simp; done) | refine Blk.alloc ?_ _)
    · repeat' (first | exact Blk.new_at _ _ _ _ (by simp; done) | refine Blk.alloc ?_ _)
    · rw [fill_zero, SL.out]
      repeat' (first | exact Blk.new_at _ _ _ _ (by simp; done) | refine Blk.alloc ?_ _)
    · repeat' (first | exact Blk.new_at _ _ _ _ (by simp; done) | refine Blk.alloc ?_ _)
    · repeat' (first | exact Below.refl _ _ | refine Below.alloc ?_ (by simp <;> omega) _)
  case round =>
    obtain ⟨k, B, hk, rfl, hD, hZ, hO, hB, hBl, hBk, hb⟩ := hrel
    obtain ⟨H, hH⟩ : ∃ H, H = w.heap.size := ⟨_, rfl⟩
    have hHn : H + 1 + 1 + 1 < wr.heap.size := by rw [hH]; exact hB.lt
    have hcell := hD.cell
    have hfro := hD.frozen
    by_cases hlt : k < n
    · have i1 : (k : Int) < (n : Int) := by omega
      obtain ⟨T, hT⟩ : ∃ T, T = t + k := ⟨_, rfl⟩
      have iT : IntKind.i64.wrap ((t : Int) + (k : Int)) = (T : Int) := by rw [IntWalk.i64_in _ (by omega)]; omega
      obtain ⟨Q, hQ⟩ : ∃ Q, Q = T / 64 := ⟨_, rfl⟩
      obtain ⟨R, hR⟩ : ∃ R, R = T % 64 := ⟨_, rfl⟩
      have hdiv : (T : Int).tdiv 64 = (Q : Int) := by rw [Int.tdiv_eq_ediv_of_nonneg (Int.natCast_nonneg _)]; omega
      have hmod : (T : Int).tmod 64 = (R : Int) := by rw [Int.tmod_eq_emod_of_nonneg (Int.natCast_nonneg _)]; omega
      have hR64 : R < 64 := by omega
      have hR64i : (R : Int) < 64 := by omega
      have hR0i : (0 : Int) ≤ (R : Int) := Int.natCast_nonneg _
      have hk0i : (0 : Int) ≤ (k : Int) := Int.natCast_nonneg _
      have hQw : IntKind.i64.wrap (Q : Int) = (Q : Int) := IntWalk.i64_in _ (by omega)
      have hRw : IntKind.i64.wrap (R : Int) = (R : Int) := IntWalk.i64_in _ (by omega)
      have hconv : IntKind.u32.wrap (Q : Int) = wb (BitVec.ofNat 32 Q) := wrap_nat isU32 _
      have HBN := Lib.hid (blkN_length key Q)
      have HT := Lib.hid hT
      have HQ := Lib.hid hQ
      have HR := Lib.hid hR
      have HBK := Lib.hid hBk
      have HBL := Lib.hid hBl
      have HLT := Lib.hid hlt
      have hG : Hid ((strm key t n).getD k 0 = (blkN key Q).getD R 0) := by
        show _ = _
        rw [strm_getD _ _ _ _ hlt, HR.out, HQ.out, HT.out]
      obtain ⟨x, hx⟩ : ∃ x, x = (blkN key Q).getD R 0 := ⟨_, rfl⟩
      have hS : Hid ((fill (strm key t n) k).set k x = fill (strm key t n) (k + 1)) := by
        show _ = _
        rw [hx, ← hG.out]; exact fill_set _ _ (by rw [SL.out]; exact hlt)
      have hX := Lib.hid hx
      clear hx
      clear hT hQ hR hBk hBl hlt
      by_cases h0 : k = 0
      · have h0' : ((k : Int) == 0) = true := by simpa using h0
        replace h0 := Lib.hid h0
        go_wp2_with (first | (refine wpList_load_rd rfl 41 _ rfl w.heap.size 0 rfl .u8 key hD.rd _ Try.underlying41 rfl (by rw [KL.out]; exact sizeKeyD) ?_) | fail)
        refine (rblkN_any key Q KL.out wr).mono ?_
        rintro e x1 ⟨rfl, hn⟩
        have hB0 := hB.below hn hB.lt
        have hO0 := hO.below hn hO.lt
        have hD0 : RDice x1 w.heap.size key t := ⟨hD.1, hD.2.below hn hD.2.lt⟩
        have hZ0 := hZ.below hn hZ.lt
        have hb0 := hb.trans (hn.mono hb.size)
        clear hn hcell hfro h0'
        have hs3 := hB0.row (encs .u8 (blkN key Q))
        have hD1 : RDice (x1.setRow (w.heap.size + 1 + 1 + 1) (encs .u8 (blkN key Q))) w.heap.size key t := ⟨hD.1, hD0.2.farRow (by omega) _⟩
        have hZ1 := hZ0.farRow (g' := w.heap.size + 1 + 1 + 1) (by omega) (encs .u8 (blkN key Q))
        have hO1 := hO0.farRow (g' := w.heap.size + 1 + 1 + 1) (by omega) (encs .u8 (blkN key Q))
        have hb1 := below_setRow hb0 (show w.heap.size ≤ w.heap.size + 1 + 1 + 1 by omega) (encs .u8 (blkN key Q))
        go_wp2_with (first | (refine wpList_store_row rfl 70 _ _ rfl _ _ rfl rfl 70 _ hB0 (by rw [encs_size, HBN.out]; exact size64D) (by rw [encs_size, encs_size, HBN.out, HBL.out]) (encs_one _ _) ?_; change wpList _ _ _ _ _ (x1.setRow (w.heap.size + 1 + 1 + 1) (encs .u8 (blkN key Q))); generalize x1.setRow (w.heap.size + 1 + 1 + 1) (encs .u8 (blkN key Q)) = x2 at *; have hB1 := hs3; clear hs3 hB0 hO0 hD0 hZ0 hb0; have hw := hB1.word R (by rw [HBN.out]; exact hR64); rw [← hX.out] at hw; have hf := hO1.frozen k; have ho := hO1.word k (by rw [fill_length _ _ (by rw [SL.out]; have := HLT.out; omega), SL.out]; exact HLT.out)) | fail)
        go_roundw
        case rel =>
          first | exact ⟨k + 1, blkN key Q, by have := HLT.out; omega, by go_num, ⟨KL.out, hD1.2.farAt (by omega) _ _⟩, hZ1.farAt (by omega) _ _, by have := hO1.put k x; rwa [hS.out] at this, hB1.farAt (by omega) _ _, HBN.out, fun _ => by rw [show t + (k + 1) - 1 = T by have := HT.out; omega, ← HQ.out], below_setCell hb1 (by omega) _ _⟩ | ((repeat apply Exists.intro); exact ⟨⟨k + 1, blkN key Q, by have := HLT.out; omega, by go_num, ⟨KL.out, hD1.2.farAt (by omega) _ _⟩, hZ1.farAt (by omega) _ _, by have := hO1.put k x; rwa [hS.out] at this, hB1.farAt (by omega) _ _, HBN.out, fun _ => by rw [show t + (k + 1) - 1 = T by have := HT.out; omega, ← HQ.out], below_setCell hb1 (by omega) _ _⟩, rfl⟩)
        case measure => simp [intOf]; have := HLT.out; omega
      · have h0' : ((k : Int) == 0) = false := by simpa using h0
        by_cases hr : R = 0
        · have hr' : ((R : Int) == 0) = true := by simpa using hr
          replace hr := Lib.hid hr
          go_wp2_with (first | (refine wpList_load_rd rfl 41 _ rfl w.heap.size 0 rfl .u8 key hD.rd _ Try.underlying41 rfl (by rw [KL.out]; exact sizeKeyD) ?_) | fail)
          refine (rblkN_any key Q KL.out wr).mono ?_
          rintro e x1 ⟨rfl, hn⟩
          have hB0 := hB.below hn hB.lt
          have hO0 := hO.below hn hO.lt
          have hD0 : RDice x1 w.heap.size key t := ⟨hD.1, hD.2.below hn hD.2.lt⟩
          have hZ0 := hZ.below hn hZ.lt
          have hb0 := hb.trans (hn.mono hb.size)
          clear hn hcell hfro h0' hr'
          have hs3 := hB0.row (encs .u8 (blkN key Q))
          have hD1 : RDice (x1.setRow (w.heap.size + 1 + 1 + 1) (encs .u8 (blkN key Q))) w.heap.size key t := ⟨hD.1, hD0.2.farRow (by omega) _⟩
          have hZ1 := hZ0.farRow (g' := w.heap.size + 1 + 1 + 1) (by omega) (encs .u8 (blkN key Q))
          have hO1 := hO0.farRow (g' := w.heap.size + 1 + 1 + 1) (by omega) (encs .u8 (blkN key Q))
          have hb1 := below_setRow hb0 (show w.heap.size ≤ w.heap.size + 1 + 1 + 1 by omega) (encs .u8 (blkN key Q))
          go_wp2_with (first | (refine wpList_store_row rfl 70 _ _ rfl _ _ rfl rfl 70 _ hB0 (by rw [encs_size, HBN.out]; exact size64D) (by rw [encs_size, encs_size, HBN.out, HBL.out]) (encs_one _ _) ?_; change wpList _ _ _ _ _ (x1.setRow (w.heap.size + 1 + 1 + 1) (encs .u8 (blkN key Q))); generalize x1.setRow (w.heap.size + 1 + 1 + 1) (encs .u8 (blkN key Q)) = x2 at *; have hB1 := hs3; clear hs3 hB0 hO0 hD0 hZ0 hb0; have hw := hB1.word R (by rw [HBN.out]; exact hR64); rw [← hX.out] at hw; have hf := hO1.frozen k; have ho := hO1.word k (by rw [fill_length _ _ (by rw [SL.out]; have := HLT.out; omega), SL.out]; exact HLT.out)) | fail)
          go_roundw
          case rel =>
            first | exact ⟨k + 1, blkN key Q, by have := HLT.out; omega, by go_num, ⟨KL.out, hD1.2.farAt (by omega) _ _⟩, hZ1.farAt (by omega) _ _, by have := hO1.put k x; rwa [hS.out] at this, hB1.farAt (by omega) _ _, HBN.out, fun _ => by rw [show t + (k + 1) - 1 = T by have := HT.out; omega, ← HQ.out], below_setCell hb1 (by omega) _ _⟩ | ((repeat apply Exists.intro); exact ⟨⟨k + 1, blkN key Q, by have := HLT.out; omega, by go_num, ⟨KL.out, hD1.2.farAt (by omega) _ _⟩, hZ1.farAt (by omega) _ _, by have := hO1.put k x; rwa [hS.out] at this, hB1.farAt (by omega) _ _, HBN.out, fun _ => by rw [show t + (k + 1) - 1 = T by have := HT.out; omega, ← HQ.out], below_setCell hb1 (by omega) _ _⟩, rfl⟩)
          case measure => simp [intOf]; have := HLT.out; omega
        · have hr' : ((R : Int) == 0) = false := by simpa using hr
          have hB1 : Blk wr (w.heap.size + 1 + 1 + 1) (encs .u8 (blkN key Q)) 70 := by
            have e : (t + k - 1) / 64 = Q := by rw [HQ.out, HT.out]; rw [HR.out, HT.out] at hr; omega
            rw [← e, ← HBK.out (by omega)]; exact hB
          have hO1 := hO
          have hD1 := hD
          have hZ1 := hZ
          have hb1 := hb
          have hw := hB1.word R (by rw [HBN.out]; exact hR64); rw [← hX.out] at hw
          have hf := hO1.frozen k
          have ho := hO1.word k (by rw [fill_length _ _ (by rw [SL.out]; have := HLT.out; omega), SL.out]; exact HLT.out)
          go_wp2_with fail
          go_roundw
          case rel =>
            first | exact ⟨k + 1, blkN key Q, by have := HLT.out; omega, by go_num, ⟨KL.out, hD1.2.farAt (by omega) _ _⟩, hZ1.farAt (by omega) _ _, by have := hO1.put k x; rwa [hS.out] at this, hB1.farAt (by omega) _ _, HBN.out, fun _ => by rw [show t + (k + 1) - 1 = T by have := HT.out; omega, ← HQ.out], below_setCell hb1 (by omega) _ _⟩ | ((repeat apply Exists.intro); exact ⟨⟨k + 1, blkN key Q, by have := HLT.out; omega, by go_num, ⟨KL.out, hD1.2.farAt (by omega) _ _⟩, hZ1.farAt (by omega) _ _, by have := hO1.put k x; rwa [hS.out] at this, hB1.farAt (by omega) _ _, HBN.out, fun _ => by rw [show t + (k + 1) - 1 = T by have := HT.out; omega, ← HQ.out], below_setCell hb1 (by omega) _ _⟩, rfl⟩)
          case measure => simp [intOf]; have := HLT.out; omega
    · obtain rfl : k = n := by omega
      have hDs : RDice (wr.setCell ⟨w.heap.size, 32, none⟩ (.int .i64 ((t : Int) + (k : Int)))) w.heap.size key (t + k) := by
        have := hD.set (t + k)
        rwa [Int.natCast_add] at this
      have hZs : Blk (wr.setCell ⟨w.heap.size, 32, none⟩ (.int .i64 ((t : Int) + (k : Int)))) (w.heap.size + 1) (diceL z32d 0).toArray 43 := hZ.farAt (by omega) _ _
      have hOs : Blk (wr.setCell ⟨w.heap.size, 32, none⟩ (.int .i64 ((t : Int) + (k : Int)))) (w.heap.size + 1 + 1) (encs .u8 (fill (strm key t k) k)) 5 := hO.farAt (by omega) _ _
      have hbs := below_setCell hb (Nat.le_refl _) 32 (.int .i64 ((t : Int) + (k : Int)))
      have DS := Lib.hid (diceL_length key (t + k) KL.out)
      go_wp2_with (first | (refine wpList_load_row rfl 43 _ rfl w.heap.size rfl 43 (diceL key (t + k)).toArray _ _ hDs.2 Try.underlying43 rfl (by rw [List.size_toArray, DS.out]; exact sizeRD) ?_) | (refine wpList_store_row rfl 43 _ _ rfl _ _ rfl rfl 43 _ hZs (by rw [List.size_toArray, DS.out]; exact sizeRD) (by rw [List.size_toArray, List.size_toArray, DS.out, DZ.out]) (diceL_ones _ _) ?_) | fail)
      rw [show fill (strm key t k) k = strm key t k by have := fill_all (strm key t k); rwa [SL.out] at this] at hOs
      refine bodyPost_ret (v := .tuple #[.agg (diceL key (t + k)).toArray, .slice (some ⟨w.heap.size + 1 + 1, 0, none⟩) k k]) (results_cell_tmp rfl _ _ (w.heap.size + 1) _ _ _ _ _ rfl rfl (hZs.row _) Try.underlying43 rfl (by rw [List.size_toArray, DS.out]; exact sizeRD)) rfl ⟨_, rfl, ?_, below_setRow hbs (by omega) _⟩
      show World.ownsRow _ _ _ _ _ _ _
      have := blk_owns (base := w.heap.size) (m := k) (hOs.farRow (g' := w.heap.size + 1) (by omega) (diceL key (t + k)).toArray) (by omega) SL.out (by unfold maxLen; omega)
      rw [SL.out]
      exact this
end Go.Proofs.Ytfamcgmgcchppaa
