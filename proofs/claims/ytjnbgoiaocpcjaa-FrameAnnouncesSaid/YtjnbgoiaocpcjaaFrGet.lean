/- frame's GetMessage and GetExchange. -/
import Derived.Test.YtjnbgoiaocpcjaaFrMsg
import Derived.Laws.Cover3
namespace Go.Proofs.Ytjnbgoiaocpcjaa
open Go.RowKit
theorem cat_one (l m : List Value) (hl : l.toArray.all (·.oneCell') = true) (hm : m.toArray.all (·.oneCell') = true) : (l ++ m).toArray.all (·.oneCell') = true := by
  rw [Array.all_eq_true_iff_forall_mem] at hl hm ⊢
  intro v hv
  simp only [List.mem_toArray, List.mem_append] at hv hl hm
  exact hv.elim (hl v) (hm v)
theorem encL_all (l : List (BitVec 8)) : (encL .u8 l).toArray.all (·.oneCell') = true := by
  rw [Array.all_eq_true_iff_forall_mem]
  intro v hv
  simp only [List.mem_toArray] at hv
  exact encL_one _ _ v hv
theorem msgL_one (k body : List (BitVec 8)) (p n : BitVec 32) : (msgL k p n body).toArray.all (·.oneCell') = true := cat_one _ _ (hdrL_one k p n) (encL_all body)
theorem excL_one (drop body : List (BitVec 8)) : (excL drop body).toArray.all (·.oneCell') = true := cat_one _ _ (encL_all drop) (encL_all body)
theorem msgL_length (k body : List (BitVec 8)) (p n : BitVec 32) (hk : k.length = 32) (hb : body.length = 65) : (msgL k p n body).length = 99 := by simp [msgL, hdrL_length k p n hk, encL_length, hb]
theorem excL_length (drop body : List (BitVec 8)) (hk : drop.length = 16) (hb : body.length = 130) : (excL drop body).length = 146 := by simp [excL, encL_length, hb, hk]
theorem sizeMsg : (Try.prog.info? 32).map (·.size) = some 99 := by kernel_rfl
theorem sizeExc : (Try.prog.info? 37).map (·.size) = some 146 := by kernel_rfl
theorem sizeBody : (Try.prog.info? 30).map (·.size) = some 65 := by kernel_rfl
theorem sizeDrop : (Try.prog.info? 34).map (·.size) = some 16 := by kernel_rfl
theorem sizeExB : (Try.prog.info? 35).map (·.size) = some 130 := by kernel_rfl
def z32 : List (BitVec 8) := List.replicate 32 0
def z65 : List (BitVec 8) := List.replicate 65 0
def z16 : List (BitVec 8) := List.replicate 16 0
def z130 : List (BitVec 8) := List.replicate 130 0
def msg0 : List Value := msgL z32 0 0 z65
def exc0 : List Value := excL z16 z130
theorem kernelZeroMsg (w : World) : (zeroValue 32).run Try.prog w = .ok (.agg msg0.toArray) w := by kernel_rfl
theorem kernelZeroExc (w : World) : (zeroValue 37).run Try.prog w = .ok (.agg exc0.toArray) w := by kernel_rfl
theorem msg0_length : msg0.length = 99 := by kernel_rfl
theorem exc0_length : exc0.length = 146 := by kernel_rfl
theorem build_msg (k body : List (BitVec 8)) (p n : BitVec 32) (hk : k.length = 32) (hb : body.length = 65) (w : World) : (Instr.build 32 #[(0, .agg (hdrL k p n).toArray), (1, .agg (encs .u8 body))]).run Try.prog w = .ok (.agg (msgL k p n body).toArray) w := by
  have h := run_build_all (P := Try.prog) 32 (Try.prog.fieldsOf 32) _ #[(0, 34), (34, 65)] (by kernel_rfl) kernelZeroMsg (fun w => by kernel_rfl) [.agg (hdrL k p n).toArray, .agg (encs .u8 body)] (by simp [tiles, Value.cells, encs_size, hb, hdrL_length k p n hk]) (by simp [catCells, Value.cells, encs_size, hb, hdrL_length k p n hk, msg0_length]) w
  have e : (catCells [.agg (hdrL k p n).toArray, .agg (encs .u8 body)]).toArray = (msgL k p n body).toArray := by simp [catCells, Value.cells, msgL, encs_toList]
  rw [e] at h
  exact h
theorem build_msgh (k : List (BitVec 8)) (p n : BitVec 32) (hk : k.length = 32) (w : World) : (Instr.build 32 #[(0, .agg (hdrL k p n).toArray)]).run Try.prog w = .ok (.agg (msgL k p n z65).toArray) w := by
  have h := run_build_first (P := Try.prog) 32 (Try.prog.fieldsOf 32) _ #[(0, 34), (34, 65)] (by kernel_rfl) kernelZeroMsg (fun w => by kernel_rfl) [.agg (hdrL k p n).toArray] (by simp [tiles, Value.cells, hdrL_length k p n hk]) (by simp [catCells, Value.cells, hdrL_length k p n hk, msg0_length]) w
  have e : (catCells [.agg (hdrL k p n).toArray] ++ msg0.drop 34).toArray = (msgL k p n z65).toArray := by
    have e34 : msg0.drop 34 = encL .u8 z65 := by
      have hl : (hdrL z32 0 0).length = 34 := hdrL_length z32 0 0 (by simp [z32])
      rw [msg0, msgL, ← hl, List.drop_left]
    rw [e34]
    simp [catCells, Value.cells, msgL]
  rw [show (catCells [.agg (hdrL k p n).toArray]).length = 34 by simp [catCells, Value.cells, hdrL_length k p n hk]] at h
  rw [show Value.cells (.agg msg0.toArray) = msg0.toArray from rfl, e] at h
  exact h
theorem build_msg0 (w : World) : (Instr.build 32 #[]).run Try.prog w = .ok (.agg msg0.toArray) w := by kernel_rfl
theorem build_exc0 (w : World) : (Instr.build 37 #[]).run Try.prog w = .ok (.agg exc0.toArray) w := by kernel_rfl
theorem build_exc (drop body : List (BitVec 8)) (hk : drop.length = 16) (hb : body.length = 130) (w : World) : (Instr.build 37 #[(0, .agg (encs .u8 drop)), (1, .agg (encs .u8 body))]).run Try.prog w = .ok (.agg (excL drop body).toArray) w := by
  have h := run_build_all (P := Try.prog) 37 (Try.prog.fieldsOf 37) _ #[(0, 16), (16, 130)] (by kernel_rfl) kernelZeroExc (fun w => by kernel_rfl) [.agg (encs .u8 drop), .agg (encs .u8 body)] (by simp [tiles, Value.cells, encs_size, hb, hk]) (by simp [catCells, Value.cells, encs_size, hb, hk, exc0_length]) w
  have e : (catCells [.agg (encs .u8 drop), .agg (encs .u8 body)]).toArray = (excL drop body).toArray := by simp [catCells, Value.cells, excL, encs_toList]
  rw [e] at h
  exact h
/-- What GetMessage makes of bytes. -/
def MsgGot (b : List (BitVec 8)) (w : World) (e : Ending) (w' : World) : Prop :=
  e = (if b.length = 105 then .returned (.tuple #[.agg (msgL (b.take 32) (num32 b 32) (num32 b 36) (b.drop 40)).toArray, .int .i64 0]) else .returned (.tuple #[.agg msg0.toArray, .int .i64 240])) ∧ Below w.heap.size w w'
set_option maxRecDepth 100000 in
set_option maxHeartbeats 2000000 in
theorem getMessage_any (b : List (BitVec 8)) (A : Option Addr) (cap : Nat) (w : World) (hR : Rd w .u8 A b) (hc : b.length ≤ cap) (hlen : b.length ≤ 140737488355328) :
    Calls Try.prog 24 #[.slice A b.length cap] w (MsgGot b w) := by
  have HZ := Lib.hid msg0_length
  have HZ1 := Lib.hid (msgL_one z32 z65 0 0)
  by_cases h40 : b.length = 105
  · have hk32 : (b.take 32).length = 32 := by rw [List.length_take]; omega
    have hb65 : (b.drop 40).length = 65 := by rw [List.length_drop]; omega
    have HBD := Lib.hid (msgL_length (b.take 32) (b.drop 40) (num32 b 32) (num32 b 36) hk32 hb65)
    have HONE := Lib.hid (msgL_one (b.take 32) (b.drop 40) (num32 b 32) (num32 b 36))
    have HBU := Lib.hid (build_msg (b.take 32) (b.drop 40) (num32 b 32) (num32 b 36) hk32 hb65)
    have hpost : Hid (∀ w', Below w.heap.size w w' → MsgGot b w (.returned (.tuple #[.agg (msgL (b.take 32) (num32 b 32) (num32 b 36) (b.drop 40)).toArray, .int .i64 0])) w') := fun w' h => ⟨by rw [if_pos h40], h⟩
    have H40 := Lib.hid h40
    have HB65 := Lib.hid hb65
    have H65 : Hid ((b.drop 40).take 65 = b.drop 40) := by show _ = _; rw [List.take_of_length_le (by omega)]
    obtain ⟨a1, a2, a3, a4⟩ := rd_ok b 40 65 65 rfl (by omega)
    have A1 := Lib.hid a1
    clear hk32 hb65 a1 a2 a3 a4
    have hA := Lib.hid (arg_of hR h40 (Nat.le_trans (by omega) hc))
    rw [h40] at hc ⊢
    clear h40 hR
    generalize hH : hdrL (b.take 32) (num32 b 32) (num32 b 36) = H at *
    generalize hM : msgL (b.take 32) (num32 b 32) (num32 b 36) (b.drop 40) = M at *
    have HH := Lib.hid hH
    clear hH hM
    generalize hY : b.drop 40 = Y at *
    clear hY
    go_enter Try.func24, Try.ntmps24
    go_wp2_with fail
    have hb0 : Below w.heap.size w (w.alloc (.cells msg0.toArray 32)) := (Below.refl _ _).alloc (Nat.le_refl _) _
    have hB0 := Blk.new w msg0.toArray 32
    refine (read_v (hA.out.below hb0) hlen).mono ?_
    rintro e w1 ⟨g, A', cap', rfl, hr, hg, hb1⟩
    have hB1 := hB0.below hb1 hB0.lt
    have hg0 : w.heap.size < g := by simp at hg; omega
    replace hb1 := hb0.trans (hb1.mono hb0.size)
    clear hB0 hb0 hg
    go_wp2_with fail
    refine (header_any g A' cap' b 0 w1 hr (by rw [H40.out]; omega)).mono ?_
    rintro e w2 ⟨rfl, hr2, hu⟩
    simp only [List.drop_zero, Nat.zero_add, HH.out] at hr2 ⊢
    have hB2 := hB1.upd hu (by omega)
    have hb2 := Upd.below hb1 hu (by omega) hb1.size
    clear hB1 hb1 hu hr
    go_wp2_with fail
    refine (raw_any g A' cap' b 40 0 65 w2 hr2).mono ?_
    rintro e w3 ⟨v3, rfl, h3, _, hu⟩
    rw [A1.out, H65.out] at h3
    have hB3 := hB2.upd hu (by omega)
    have hb3 := Upd.below hb2 hu (by omega) hb2.size
    clear hB2 hb2 hu hr2
    obtain ⟨A3, c3, rfl, hc3, hr3⟩ := ownsRow_rd h3
    obtain ⟨g3, o3, rfl, _⟩ := hr3 0 (by rw [HB65.out]; omega)
    have HR3 := Lib.hid hr3
    clear h3 hr3
    rw [HB65.out] at hc3 ⊢
    have hat := run_arrayAt (P := Try.prog) (w := w3) 30 5 65 (some ⟨g3, o3, none⟩) 65 c3 Try.underlying30 (Nat.le_refl _)
    go_wp2_with (first | (refine wpList_load_rd rfl 30 _ rfl g3 o3 rfl .u8 Y HR3.out _ Try.underlying30 rfl (by rw [HB65.out]; exact sizeBody) ?_) | (refine wpList_build rfl 32 _ rfl (.agg M.toArray) _ HBU.out (by simp [Act.eval, Act.put]) ?_) | (refine wpList_store_row rfl 32 _ _ rfl _ _ rfl rfl 32 _ hB3 (by rw [List.size_toArray, HBD.out]; exact sizeMsg) (by rw [List.size_toArray, List.size_toArray, HBD.out, HZ.out]) HONE.out ?_) | fail)
    refine bodyPost_ret (v := .tuple #[.agg M.toArray, .int .i64 0]) (results_cell_tmp rfl _ _ _ _ _ _ _ _ rfl rfl (hB3.row _) Try.underlying32 rfl (by rw [List.size_toArray, HBD.out]; exact sizeMsg)) rfl (hpost.out _ (below_setRow hb3 (Nat.le_refl _) _))
  · have hpost : Hid (∀ w', Below w.heap.size w w' → MsgGot b w (.returned (.tuple #[.agg msg0.toArray, .int .i64 240])) w') := fun w' h => ⟨by rw [if_neg h40], h⟩
    have e0 : ((b.length : Int) != 105) = true := by simp; omega
    have hz := Lib.hid build_msg0
    have HONE : Hid (msg0.toArray.all (·.oneCell') = true) := msgL_one _ _ _ _
    generalize b.length = len at *
    go_enter Try.func24, Try.ntmps24
    have hB0 : Blk (w.alloc (.cells msg0.toArray 32)) w.heap.size msg0.toArray 32 := Blk.new _ _ _
    have hb0 : Below w.heap.size w (w.alloc (.cells msg0.toArray 32)) := (Below.refl _ _).alloc (Nat.le_refl _) _
    go_wp2_with (first | (refine wpList_build rfl 32 _ rfl (.agg msg0.toArray) _ hz.out (by simp) ?_) | (refine wpList_store_row rfl 32 _ _ rfl _ _ rfl rfl 32 _ hB0 (by rw [List.size_toArray, HZ.out]; exact sizeMsg) rfl HONE.out ?_) | fail)
    exact bodyPost_ret (v := .tuple #[.agg msg0.toArray, .int .i64 240]) (results_cell_tmp rfl _ _ _ _ _ _ _ _ rfl rfl (hB0.row _) Try.underlying32 rfl (by rw [List.size_toArray, HZ.out]; exact sizeMsg)) rfl (hpost.out _ (below_setRow hb0 (Nat.le_refl _) _))
/-- What GetExchange makes of bytes. -/
def ExcGot (b : List (BitVec 8)) (w : World) (e : Ending) (w' : World) : Prop :=
  e = (if b.length = 146 then .returned (.tuple #[.agg (excL (b.take 16) (b.drop 16)).toArray, .int .i64 0]) else .returned (.tuple #[.agg exc0.toArray, .int .i64 240])) ∧ Below w.heap.size w w'
set_option maxRecDepth 100000 in
set_option maxHeartbeats 2000000 in
theorem getExchange_any (b : List (BitVec 8)) (A : Option Addr) (cap : Nat) (w : World) (hR : Rd w .u8 A b) (hc : b.length ≤ cap) :
    Calls Try.prog 25 #[.slice A b.length cap] w (ExcGot b w) := by
  have HZ := Lib.hid exc0_length
  by_cases h40 : b.length = 146
  · have hk16 : (b.take 16).length = 16 := by rw [List.length_take]; omega
    have hb65 : (b.drop 16).length = 130 := by rw [List.length_drop]; omega
    have HBD := Lib.hid (excL_length (b.take 16) (b.drop 16) hk16 hb65)
    have HONE := Lib.hid (excL_one (b.take 16) (b.drop 16))
    have HBU := Lib.hid (build_exc (b.take 16) (b.drop 16) hk16 hb65)
    have hpost : Hid (∀ w', Below w.heap.size w w' → ExcGot b w (.returned (.tuple #[.agg (excL (b.take 16) (b.drop 16)).toArray, .int .i64 0])) w') := fun w' h => ⟨by rw [if_pos h40], h⟩
    have HK16 := Lib.hid hk16
    have HB65 := Lib.hid hb65
    obtain ⟨g, off, rfl, _⟩ := hR 0 (by omega)
    have e2 : cutA (some ⟨g, off, none⟩) 16 cap 1 = some ⟨g, off + 16, none⟩ := by
      unfold cutA
      rw [if_neg (by omega), Option.map_some, Nat.mul_one, add_lit]
    have r1 : Rd w .u8 (some ⟨g, off, none⟩) (b.take 16) := by
      have := rd_cut hR 0 16 cap hc
      rwa [cutA_zero, List.drop_zero] at this
    have r2 : Rd w .u8 (some ⟨g, off + 16, none⟩) (b.drop 16) := by
      have := rd_cut hR 16 130 cap hc
      rwa [e2, List.take_of_length_le (by omega)] at this
    have hs1 := fun wx => run_slice_to (P := Try.prog) bytesT (some ⟨g, off, none⟩) 146 cap 16 .i64 (by omega) (by omega) wx
    have hs2 := fun wx => run_slice_from (P := Try.prog) bytesT (some ⟨g, off, none⟩) 146 cap 16 .i64 (by omega) (by omega) wx
    rw [cutA_zero] at hs1
    rw [show (16 : Int).toNat = 16 from rfl] at hs1 hs2
    rw [e2] at hs2
    have HS1 := Lib.hid hs1
    have HS2 := Lib.hid hs2
    have R1 := Lib.hid r1
    have R2 := Lib.hid r2
    clear hk16 hb65 e2 hs1 hs2 r1 r2 hR
    rw [h40] at hc ⊢
    clear h40
    generalize b.take 16 = X at *
    generalize b.drop 16 = Y at *
    generalize hM : excL X Y = M at *
    clear hM
    have hat1 := fun wx => run_arrayAt (P := Try.prog) (w := wx) 34 5 16 (some ⟨g, off, none⟩) 16 cap Try.underlying34 (Nat.le_refl _)
    have hat2 := fun wx => run_arrayAt (P := Try.prog) (w := wx) 35 5 130 (some ⟨g, off + 16, none⟩) 130 (cap - 16) Try.underlying35 (Nat.le_refl _)
    go_enter Try.func25, Try.ntmps25
    go_wp2_with fail
    have hb0 : Below w.heap.size w (w.alloc (.cells exc0.toArray 37)) := (Below.refl _ _).alloc (Nat.le_refl _) _
    have hB0 := Blk.new w exc0.toArray 37
    have hs1 := HS1.out
    have hs2 := HS2.out
    refine mix_start (fun w' => Below w.heap.size w w') (List.range 11) [9] [3, 7] [] (by kernel_rfl) (by kernel_rfl) (fun d _ _ _ _ h => by cases d <;> exact h) hb0.drew ?_
    repeat (refine mix_pure rfl rfl (fun K hK => ?_); go_simp; refine hK _ ?_; clear hK K)
    refine mix_load_rd rfl rfl rfl rfl 34 _ rfl g off rfl .u8 X (fun w' hS => R1.out.below hS) _ Try.underlying34 rfl (by rw [HK16.out]; exact sizeDrop) ?_
    repeat (refine mix_pure rfl rfl (fun K hK => ?_); go_simp; refine hK _ ?_; clear hK K)
    refine mix_load_rd rfl rfl rfl rfl 35 _ rfl g (off + 16) rfl .u8 Y (fun w' hS => R2.out.below hS) _ Try.underlying35 rfl (by rw [HB65.out]; exact sizeExB) ?_
    refine mix_build rfl rfl rfl 37 _ rfl (.agg M.toArray) _ HBU.out (by simp [Act.eval, Act.put]) ?_
    refine mix_eff rfl rfl (fun K hK => ?_)
    refine step_store_row rfl 37 _ _ rfl _ _ rfl rfl 37 _ hB0.drew (by rw [List.size_toArray, HBD.out]; exact sizeExc) (by rw [List.size_toArray, List.size_toArray, HBD.out, HZ.out]) HONE.out ?_
    refine hK _ _ (fun _ h => below_setRow h (Nat.le_refl _) _) ?_
    clear hK K
    repeat (refine mix_pure rfl rfl (fun K hK => ?_); go_simp; refine hK _ ?_; clear hK K)
    refine mix_nil ?_
    go_wp2_with fail
    refine bodyPost_ret (v := .tuple #[.agg M.toArray, .int .i64 0]) (results_cell_tmp rfl _ _ _ _ _ _ _ _ rfl rfl (hB0.drew.row _) Try.underlying37 rfl (by rw [List.size_toArray, HBD.out]; exact sizeExc)) rfl (hpost.out _ (below_setRow hb0.drew (Nat.le_refl _) _))
  · have hpost : Hid (∀ w', Below w.heap.size w w' → ExcGot b w (.returned (.tuple #[.agg exc0.toArray, .int .i64 240])) w') := fun w' h => ⟨by rw [if_neg h40], h⟩
    have e0 : ((b.length : Int) != 146) = true := by simp; omega
    have hz := Lib.hid build_exc0
    have HONE : Hid (exc0.toArray.all (·.oneCell') = true) := excL_one _ _
    generalize b.length = len at *
    go_enter Try.func25, Try.ntmps25
    have hB0 : Blk (w.alloc (.cells exc0.toArray 37)) w.heap.size exc0.toArray 37 := Blk.new _ _ _
    have hb0 : Below w.heap.size w (w.alloc (.cells exc0.toArray 37)) := (Below.refl _ _).alloc (Nat.le_refl _) _
    go_wp2_with (first | (refine wpList_build rfl 37 _ rfl (.agg exc0.toArray) _ hz.out (by simp) ?_) | (refine wpList_store_row rfl 37 _ _ rfl _ _ rfl rfl 37 _ hB0 (by rw [List.size_toArray, HZ.out]; exact sizeExc) rfl HONE.out ?_) | fail)
    exact bodyPost_ret (v := .tuple #[.agg exc0.toArray, .int .i64 240]) (results_cell_tmp rfl _ _ _ _ _ _ _ _ rfl rfl (hB0.row _) Try.underlying37 rfl (by rw [List.size_toArray, HZ.out]; exact sizeExc)) rfl (hpost.out _ (below_setRow hb0 (Nat.le_refl _) _))
end Go.Proofs.Ytjnbgoiaocpcjaa
