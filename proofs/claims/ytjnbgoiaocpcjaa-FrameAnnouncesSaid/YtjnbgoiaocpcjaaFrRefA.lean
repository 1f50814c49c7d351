/- The reference's GetAnnounce. -/
import Derived.Test.YtjnbgoiaocpcjaaFrAnn
import Derived.Test.YtjnbgoiaocpcjaaFrRefG
import Derived.Test.YtjnbgoiaocpcjaaEnvMay
namespace Go.Proofs.Ytjnbgoiaocpcjaa
open Go.RowKit
set_option linter.unusedVariables false
set_option linter.unusedSimpArgs false
attribute [local go_sem] conv8_int_g
/-- What the reference makes of 106 bytes: only whether it is one, and what it holds then. -/
def RAnnP (b : List (BitVec 8)) (w : World) (e : Ending) (w' : World) : Prop :=
  ∃ R v n l, e = .returned (.tuple #[.agg #[.int .u64 (wb R), v], .bool (okA b)]) ∧ OwnK w' w.heap.size v n l ∧ (okA b = true → R = get64 (b.drop 1) ∧ n = annM b ∧ l = (b.drop 10).take (32 * annM b)) ∧ Below w.heap.size w w'
theorem keyK_low (b : List (BitVec 8)) (h : b.length = 106) (k : Nat) (hk : k < 3) : (b.drop (10 + 32 * k)).take 32 = keyK b k := by
  unfold keyK keyAll
  rw [List.drop_append_of_le_length (by rw [List.length_drop]; omega), List.take_append_of_le_length (by rw [List.length_drop, List.length_drop]; omega), List.drop_drop]
theorem over_key (m : List (BitVec 8)) (hm : (m.take 32).length = 32) : over (encs .u8 z32k) 0 ((encL .u8 m).take 32) = encs .u8 (m.take 32) := by
  have e : (encL .u8 m).take 32 = encL .u8 (m.take 32) := by simp [encL, List.map_take]
  rw [e, over_encs, overL_all _ _ (by rw [hm]; rfl)]
theorem rsize_ann : (Try.prog.info? 78).map (·.size) = some 2 := by kernel_rfl
set_option maxRecDepth 100000 in
set_option maxHeartbeats 8000000 in
theorem rgetann_any (b : List (BitVec 8)) (v : Value) (w : World) (hb : Arg w v b) (h106 : b.length = 106) :
    Calls Try.prog 45 #[v] w (RAnnP b w) := by
  obtain ⟨A, cap, rfl, hc, hR⟩ := hb
  have HR1 := Lib.hid (rd_cut hR 1 8 cap hc)
  have HL1 : Hid (((b.drop 1).take 8).length = 8) := by show _ = _; rw [List.length_take, List.length_drop]; omega
  rw [h106] at hc
  have HA1 := Lib.hid (arg_of HR1.out HL1.out (show 8 ≤ cap - 1 by omega))
  have HN : Hid (num ((b.drop 1).take 8) = get64 (b.drop 1)) := by show _ = _; rfl
  have hs1 := fun wx => run_slice_row (P := Try.prog) bytesT A 106 cap 1 9 .i64 .i64 (by omega) (by omega) (by omega) wx
  rw [show (1 : Int).toNat = 1 from rfl, show (9 : Int).toNat = 9 from rfl, show 9 - 1 = 8 from rfl] at hs1
  have HRR := Lib.hid hR
  have H106 := Lib.hid h106
  have HC := Lib.hid hc
  obtain ⟨g0, off, rfl, hcell0⟩ := hR 0 (by omega)
  obtain ⟨_, _, he1, hcell9⟩ := hR 9 (by omega)
  cases he1
  rw [Nat.add_zero] at hcell0
  have mb0 := Blk.new w #[.int .u64 0, .slice none 0 0] 78
  have hb0 : Below w.heap.size w (w.alloc (.cells #[.int .u64 0, .slice none 0 0] 78)) := (Below.refl _ _).alloc (Nat.le_refl _) _
  have HF := Lib.hid (show wb (b.getD 9 0) = ((b.getD 9 0).toNat : Int) from rfl)
  rw [h106]
  clear hR
  generalize hRV : get64 (b.drop 1) = R at *
  generalize hfb : b.getD 0 0 = fb at *
  generalize hnb : b.getD 9 0 = nb at *
  go_enter Try.func45, Try.ntmps45
  go_wp2_with fail
  refine (rnum14_v (HA1.out.below hb0) (by rw [HL1.out]; omega)).mono ?_
  rintro e w' ⟨rfl, rfl⟩
  rw [HN.out]
  have HBU := Lib.hid (build_ann R)
  have hn3 : Below (w.alloc (.cells #[.int .u64 0, .slice none 0 0] 78)).heap.size (w.alloc (.cells #[.int .u64 0, .slice none 0 0] 78)) ((w.alloc (.cells #[.int .u64 0, .slice none 0 0] 78)).alloc (.cells #[.int .u64 (wb R), .slice none 0 0] 78)) := (Below.refl _ _).alloc (Nat.le_refl _) _
  have mbP := Blk.new (w.alloc (.cells #[.int .u64 0, .slice none 0 0] 78)) #[.int .u64 (wb R), .slice none 0 0] 78
  replace mb0 := mb0.below hn3 mb0.lt
  have hw := hb0.trans (hn3.mono hb0.size)
  have hsz : (w.alloc (.cells #[.int .u64 0, .slice none 0 0] 78)).heap.size = w.heap.size + 1 := by simp
  rw [hsz] at mbP
  have hc0 := below_cell hw hcell0
  have hc9 := below_cell hw hcell9
  clear hn3 hb0 hsz hcell9
  obtain ⟨M, hM⟩ : ∃ M : Nat, M = nb.toNat := ⟨_, rfl⟩
  have hnM : wb nb = (M : Int) := by rw [hM]; rfl
  have hM255 : (M : Int) ≤ 255 := by have := nb.isLt; omega
  have hwM : IntKind.i64.wrap (M : Int) = (M : Int) := IntWalk.i64_in _ (by omega)
  rw [hnM] at hc9
  have HAM : Hid (annM b = min M 4) := by show _ = _; unfold annM; rw [hnb, hM]
  have hcP : ∀ (h : True), True := fun h => h
  have cP0 := mbP.cell 0
  replace cP0 : _ = some (Value.int .u64 (wb R)) := cP0
  have HPF : Hid (okA b = false → ∀ w', Below w.heap.size w w' → RAnnP b w (.returned (.tuple #[.agg #[.int .u64 0, .slice none 0 0], .bool false])) w') := fun ho w' h2 => by
    unfold RAnnP
    rw [ho]
    exact ⟨0, _, 0, [], rfl, OwnK.nil _ _, fun h => (by cases h), h2⟩
  clear hM hcP
  by_cases i1 : (M : Int) < 1
  · have hno : okA b = false := by
      unfold okA rightA
      rw [HAM.out, show decide (0 < min M 4) = false from decide_eq_false (by omega)]
      simp
    go_wp2_with (first | (refine wpList_store_last rfl 78 _ _ rfl _ _ #[.int .u64 (wb R), .slice none 0 0] 78 rfl rfl (by simp) (by exact rsize_ann) (by simp) (by simp [Value.oneCell']) ?_; generalize (w.alloc (.cells #[.int .u64 0, .slice none 0 0] 78)).alloc (.cells #[.int .u64 (wb R), .slice none 0 0] 78) = w1 at *) | (refine wpList_store_row rfl 78 _ _ rfl _ _ rfl rfl 78 _ mb0 (by exact rsize_ann) (by simp) (by simp [Value.oneCell']) ?_) | fail)
    refine bodyPost_ret (v := .tuple #[.agg #[.int .u64 0, .slice none 0 0], .bool false]) (results_cell_tmp rfl _ _ _ _ _ _ _ _ rfl rfl (mb0.row _) Try.underlying78 rfl (by exact rsize_ann)) rfl ?_
    exact HPF.out (hno) _ (below_setRow hw (Nat.le_refl _) _)
  by_cases i2 : (3 : Int) < (M : Int)
  · have i1b : decide ((M : Int) < 1) = false := decide_eq_false i1
    have i2b : decide ((3 : Int) < (M : Int)) = true := decide_eq_true i2
    have hno : okA b = false := by
      unfold okA rightA
      rw [HAM.out, show decide (min M 4 ≤ 3) = false from decide_eq_false (by omega)]
      simp
    replace i1 := Lib.hid i1
    replace i2 := Lib.hid i2
    go_wp2_with (first | (refine wpList_store_last rfl 78 _ _ rfl _ _ #[.int .u64 (wb R), .slice none 0 0] 78 rfl rfl (by simp) (by exact rsize_ann) (by simp) (by simp [Value.oneCell']) ?_; generalize (w.alloc (.cells #[.int .u64 0, .slice none 0 0] 78)).alloc (.cells #[.int .u64 (wb R), .slice none 0 0] 78) = w1 at *) | (refine wpList_store_row rfl 78 _ _ rfl _ _ rfl rfl 78 _ mb0 (by exact rsize_ann) (by simp) (by simp [Value.oneCell']) ?_) | fail)
    refine bodyPost_ret (v := .tuple #[.agg #[.int .u64 0, .slice none 0 0], .bool false]) (results_cell_tmp rfl _ _ _ _ _ _ _ _ rfl rfl (mb0.row _) Try.underlying78 rfl (by exact rsize_ann)) rfl ?_
    exact HPF.out (hno) _ (below_setRow hw (Nat.le_refl _) _)
  have HM1 : Hid (1 ≤ M ∧ M ≤ 3) := by show _ ∧ _; omega
  have HAM' : Hid (annM b = M) := by show _ = _; rw [HAM.out]; have := HM1.out; omega
  have HFQ : Hid ((wb fb != 1) = (fb != 1)) := wb_neq8 fb 1
  cases hq : (wb fb != 1) with
  | true =>
    have hno : okA b = false := by
      rw [HFQ.out] at hq
      unfold okA
      rw [hfb, show (fb == 1) = false from by simpa [bne] using hq]
      rfl
    go_wp2_with (first | (refine wpList_store_last rfl 78 _ _ rfl _ _ #[.int .u64 (wb R), .slice none 0 0] 78 rfl rfl (by simp) (by exact rsize_ann) (by simp) (by simp [Value.oneCell']) ?_; generalize (w.alloc (.cells #[.int .u64 0, .slice none 0 0] 78)).alloc (.cells #[.int .u64 (wb R), .slice none 0 0] 78) = w1 at *) | (refine wpList_store_row rfl 78 _ _ rfl _ _ rfl rfl 78 _ mb0 (by exact rsize_ann) (by simp) (by simp [Value.oneCell']) ?_) | fail)
    refine bodyPost_ret (v := .tuple #[.agg #[.int .u64 0, .slice none 0 0], .bool false]) (results_cell_tmp rfl _ _ _ _ _ _ _ _ rfl rfl (mb0.row _) Try.underlying78 rfl (by exact rsize_ann)) rfl ?_
    exact HPF.out (hno) _ (below_setRow hw (Nat.le_refl _) _)
  | false =>
    cases hz : (wb R == 0) with
    | true =>
      have hno : okA b = false := by
        unfold okA rightA
        rw [hRV, show decide (0 < wb R) = false from decide_eq_false (by have : wb R = 0 := by simpa using hz
                                                                         omega)]
        simp
      go_wp2_with (first | (refine wpList_store_last rfl 78 _ _ rfl _ _ #[.int .u64 (wb R), .slice none 0 0] 78 rfl rfl (by simp) (by exact rsize_ann) (by simp) (by simp [Value.oneCell']) ?_; generalize (w.alloc (.cells #[.int .u64 0, .slice none 0 0] 78)).alloc (.cells #[.int .u64 (wb R), .slice none 0 0] 78) = w1 at *) | (refine wpList_store_row rfl 78 _ _ rfl _ _ rfl rfl 78 _ mb0 (by exact rsize_ann) (by simp) (by simp [Value.oneCell']) ?_) | fail)
      refine bodyPost_ret (v := .tuple #[.agg #[.int .u64 0, .slice none 0 0], .bool false]) (results_cell_tmp rfl _ _ _ _ _ _ _ _ rfl rfl (mb0.row _) Try.underlying78 rfl (by exact rsize_ann)) rfl ?_
      exact HPF.out (hno) _ (below_setRow hw (Nat.le_refl _) _)
    | false =>
      have HOK : Hid (okA b = (b.drop (10 + 32 * M)).all (· == 0)) := by
        show _ = _
        have hR0 : 0 < wb R := by
          have h1 : wb R ≠ 0 := by simpa using hz
          have h2 : 0 ≤ wb R := Int.natCast_nonneg _
          omega
        unfold okA rightA
        rw [HAM'.out, hRV, hfb, show (fb == 1) = true from by rw [HFQ.out] at hq; simpa [bne] using hq, show decide (0 < wb R) = true from decide_eq_true hR0, show decide (0 < M) = true from decide_eq_true HM1.out.1, show decide (M ≤ 3) = true from decide_eq_true HM1.out.2]
        simp
      go_wp2_with (first | (refine wpList_store_last rfl 78 _ _ rfl _ _ #[.int .u64 (wb R), .slice none 0 0] 78 rfl rfl (by simp) (by exact rsize_ann) (by simp) (by simp [Value.oneCell']) ?_; generalize (w.alloc (.cells #[.int .u64 0, .slice none 0 0] 78)).alloc (.cells #[.int .u64 (wb R), .slice none 0 0] 78) = w1 at *) | fail)
      have hPlt := mbP.lt
      have hH1 : w.heap.size < w.heap.size + 1 := by omega
      clear cP0 i1 i2 hc0 hc9
      go_loopw [6] (fun i wr => ∃ (k : Nat) (v : Value), k ≤ M ∧ i = .int .i64 k ∧ Blk wr (w.heap.size + 1) #[.int .u64 (wb R), v] 78 ∧ OwnK wr (w.heap.size + 1 + 1) v k (keysK b k) ∧ Blk wr w.heap.size #[.int .u64 0, .slice none 0 0] 78 ∧ Below w.heap.size w wr ∧ w.heap.size + 1 < wr.heap.size) (fun i _ => M - (intOf i).toNat)
      case atStart => exact ⟨0, _, Nat.zero_le _, rfl, mbP, OwnK.nil _ _, mb0, hw, hPlt⟩
      case round =>
        clear mbP mb0 hw hPlt
        obtain ⟨k, v, hk, rfl, mbP, ho, mb0, hw, hPr⟩ := hrel
        obtain ⟨oA, oc, rfl⟩ := id ho.form
        by_cases hlt : k < M
        · have i3 : (k : Int) < (M : Int) := by omega
          have hk3 : k < 3 := by have := HM1.out; omega
          have HKL := Lib.hid (keyK_length b H106.out k (by omega))
          have HKO := Lib.hid (keyK_low b H106.out k hk3)
          have HKS := Lib.hid (keysK_succ b k)
          have HLT := Lib.hid hlt
          have hk0 : (0 : Int) ≤ (k : Int) := Int.natCast_nonneg _
          have hk3i : (k : Int) < 3 := by omega
          have hw1 : IntKind.i64.wrap (32 * (k : Int)) = 32 * (k : Int) := IntWalk.i64_in _ (by omega)
          have hw2 : IntKind.i64.wrap (10 + 32 * (k : Int)) = 10 + 32 * (k : Int) := IntWalk.i64_in _ (by omega)
          have hs2 := fun wx => run_slice_from (P := Try.prog) bytesT (some ⟨g0, off, none⟩) 106 cap (10 + 32 * (k : Int)) .i64 (by omega) (by omega) wx
          have hn2 : Below wr.heap.size wr (wr.alloc (.cells #[Value.int .u8 0, Value.int .u8 0, Value.int .u8 0, Value.int .u8 0, Value.int .u8 0, Value.int .u8 0, Value.int .u8 0, Value.int .u8 0, Value.int .u8 0, Value.int .u8 0, Value.int .u8 0, Value.int .u8 0, Value.int .u8 0, Value.int .u8 0, Value.int .u8 0, Value.int .u8 0, Value.int .u8 0, Value.int .u8 0, Value.int .u8 0, Value.int .u8 0, Value.int .u8 0, Value.int .u8 0, Value.int .u8 0, Value.int .u8 0, Value.int .u8 0, Value.int .u8 0, Value.int .u8 0, Value.int .u8 0, Value.int .u8 0, Value.int .u8 0, Value.int .u8 0, Value.int .u8 0] 26)) := (Below.refl _ _).alloc (Nat.le_refl _) _
          have mbK := Blk.new wr #[Value.int .u8 0, Value.int .u8 0, Value.int .u8 0, Value.int .u8 0, Value.int .u8 0, Value.int .u8 0, Value.int .u8 0, Value.int .u8 0, Value.int .u8 0, Value.int .u8 0, Value.int .u8 0, Value.int .u8 0, Value.int .u8 0, Value.int .u8 0, Value.int .u8 0, Value.int .u8 0, Value.int .u8 0, Value.int .u8 0, Value.int .u8 0, Value.int .u8 0, Value.int .u8 0, Value.int .u8 0, Value.int .u8 0, Value.int .u8 0, Value.int .u8 0, Value.int .u8 0, Value.int .u8 0, Value.int .u8 0, Value.int .u8 0, Value.int .u8 0, Value.int .u8 0, Value.int .u8 0] 26
          rw [show (10 + 32 * (k : Int)).toNat = 10 + 32 * k by omega] at hs2
          have hrk := rd_cut HRR.out (10 + 32 * k) (106 - (10 + 32 * k)) cap (by rw [H106.out]; exact HC.out)
          rw [List.take_of_length_le (by rw [List.length_drop, H106.out]; omega)] at hrk
          have HRK := Lib.hid (hrk.below hw)
          have HOV := Lib.hid (over_key (b.drop (10 + 32 * k)) (by rw [HKO.out, HKL.out]))
          have HDL : Hid ((b.drop (10 + 32 * k)).length = 106 - (10 + 32 * k)) := by show _ = _; rw [List.length_drop, H106.out]
          clear hlt hrk
          go_wp2_with fail
          refine mix_start (fun _ => True) (List.range 7) [6] [] [] (by kernel_rfl) (by kernel_rfl) (fun d _ _ _ _ h => by cases d <;> exact h) trivial ?_
          replace hn2 := hn2.drew
          replace mbK := mbK.drew
          generalize (wr.alloc (.cells #[Value.int .u8 0, Value.int .u8 0, Value.int .u8 0, Value.int .u8 0, Value.int .u8 0, Value.int .u8 0, Value.int .u8 0, Value.int .u8 0, Value.int .u8 0, Value.int .u8 0, Value.int .u8 0, Value.int .u8 0, Value.int .u8 0, Value.int .u8 0, Value.int .u8 0, Value.int .u8 0, Value.int .u8 0, Value.int .u8 0, Value.int .u8 0, Value.int .u8 0, Value.int .u8 0, Value.int .u8 0, Value.int .u8 0, Value.int .u8 0, Value.int .u8 0, Value.int .u8 0, Value.int .u8 0, Value.int .u8 0, Value.int .u8 0, Value.int .u8 0, Value.int .u8 0, Value.int .u8 0] 26)).drew = x0 at *
          replace mbK : Blk x0 wr.heap.size (encs .u8 z32k) 26 := mbK
          repeat (refine mix_pure rfl rfl (fun K hK => ?_); go_simp; refine hK _ ?_; clear hK K)
          refine mix_eff rfl rfl (fun F hF => ?_)
          refine step_copy_blk rfl _ _ 38 38 5 rfl Try.underlying38 (by kernel_rfl) wr.heap.size 0 32 32 rfl (encs .u8 z32k) 26 mbK (cutA (some ⟨g0, off, none⟩) (10 + 32 * k) cap 1) (106 - (10 + 32 * k)) (cap - (10 + 32 * k)) (encL .u8 (b.drop (10 + 32 * k))) (by rw [encL_length, HDL.out]) rfl (HRK.out.below hn2).cells (encL_one _ _) (by simp [encs_size, z32k]) ?_
          intro x1 hE hU
          rw [HOV.out, HKO.out] at hE
          have hn : Below wr.heap.size wr x1 := Upd.below hn2 hU (Nat.le_refl _) hn2.size
          replace mbP := mbP.below hn mbP.lt
          replace mb0 := mb0.below hn mb0.lt
          replace ho := ho.below hn
          replace hw := hw.trans (hn.mono hw.size)
          have hsz := hn.size
          refine hF _ _ (fun _ _ => trivial) ?_
          clear hF F hU hn hn2 mbK hs2
          refine mix_nil ?_
          have hcP : x1.cell? ⟨w.heap.size + 1, 1, none⟩ = some (.slice oA k oc) := mbP.cell 1
          have hn3 : Below x1.heap.size x1 (x1.alloc (.cells (encs .u8 (keyK b k)) 26)) := (Below.refl _ _).alloc (Nat.le_refl _) _
          have mbK := Blk.new x1 (encs .u8 (keyK b k)) 26
          have mbP3 := mbP.below hn3 mbP.lt
          have mb03 := mb0.below hn3 mb0.lt
          have ho3 := ho.below hn3
          have hw3 := hw.trans (hn3.mono hw.size)
          have hsz3 := hn3.size
          clear hn3 mbP mb0 ho hw
          go_wp2_with (first | (refine wpList_load_row rfl 26 _ rfl wr.heap.size rfl 26 (encs .u8 (keyK b k)) _ _ hE Try.underlying26 rfl (by rw [encs_size, HKL.out]; exact sizeKey) ?_) | (refine wpList_bslice_key rfl _ rfl (keyK b k) HKL.out rfl ?_; generalize x1.alloc (.cells (encs .u8 (keyK b k)) 26) = x2 at *) | (at_builtin; refine wpList_appk rfl _ _ rfl (w.heap.size + 1 + 1) _ k (keysK b k) rfl ho3 x1.heap.size (keyK b k) HKL.out rfl mbK (by omega) (by omega) (fun v3 x3 ho4 hgr hn4 => ?_); obtain ⟨nA, nc, rfl⟩ := id ho4.form; rw [HKS.out] at ho4; replace mbP3 := mbP3.below hn4 (by omega); replace mb03 := mb03.below hn4 (by omega); replace hw3 := hw3.trans (hn4.mono (by omega)); have hcP4 := mbP3.cell 1; have hfP4 := mbP3.frozen 1; clear ho3 mbK hgr hn4) | fail)
          go_roundw
          case rel =>
            first | exact ⟨k + 1, _, by have := HLT.out; omega, by go_num, mbP3.set 1 _, ho4.upd ((Upd.refl _ x3).setCell 1 _) (by omega), mb03.farAt (by omega) _ _, below_setCell hw3 (by omega) _ _, Nat.lt_of_lt_of_le mbP3.lt ((Upd.refl (w.heap.size + 1) x3).setCell 1 _).size⟩ | ((repeat apply Exists.intro); exact ⟨⟨k + 1, _, by have := HLT.out; omega, by go_num, mbP3.set 1 _, ho4.upd ((Upd.refl _ x3).setCell 1 _) (by omega), mb03.farAt (by omega) _ _, below_setCell hw3 (by omega) _ _, Nat.lt_of_lt_of_le mbP3.lt ((Upd.refl (w.heap.size + 1) x3).setCell 1 _).size⟩, rfl⟩)
          case measure => simp [intOf]; have := HLT.out; omega
        · obtain rfl : k = M := by omega
          have hk3 : k ≤ 3 := HM1.out.2
          have hk0 : (0 : Int) ≤ (k : Int) := Int.natCast_nonneg _
          have hk3i : (k : Int) ≤ 3 := by omega
          have hw1 : IntKind.i64.wrap (32 * (k : Int)) = 32 * (k : Int) := IntWalk.i64_in _ (by omega)
          have hw2 : IntKind.i64.wrap (10 + 32 * (k : Int)) = 10 + 32 * (k : Int) := IntWalk.i64_in _ (by omega)
          have hs2 := fun wx => run_slice_from (P := Try.prog) bytesT (some ⟨g0, off, none⟩) 106 cap (10 + 32 * (k : Int)) .i64 (by omega) (by omega) wx
          rw [show (10 + 32 * (k : Int)).toNat = 10 + 32 * k by omega] at hs2
          have hrk := rd_cut HRR.out (10 + 32 * k) (106 - (10 + 32 * k)) cap (by rw [H106.out]; exact HC.out)
          rw [List.take_of_length_le (by rw [List.length_drop, H106.out]; omega)] at hrk
          have HDL : Hid ((b.drop (10 + 32 * k)).length = 106 - (10 + 32 * k)) := by show _ = _; rw [List.length_drop, H106.out]
          have HAK := Lib.hid (arg_of (hrk.below hw) HDL.out (show 106 - (10 + 32 * k) ≤ cap - (10 + 32 * k) by have := HC.out; omega))
          have c0 : wr.cell? ⟨w.heap.size + 1, 0, none⟩ = some (.int .u64 (wb R)) := mbP.cell 0
          have c1 : wr.cell? ⟨w.heap.size + 1, 1, none⟩ = some (.slice oA k oc) := mbP.cell 1
          clear hrk hlt
          go_wp2_with fail
          refine mix_start (fun w' => w'.cell? ⟨w.heap.size + 1, 0, none⟩ = some (.int .u64 (wb R)) ∧ w'.cell? ⟨w.heap.size + 1, 1, none⟩ = some (.slice oA k oc)) (List.range 9) [6, 7] [0] [] (by kernel_rfl) (by kernel_rfl) (fun d _ _ _ _ h => by cases d <;> exact h) ⟨c0, c1⟩ ?_
          replace mbP := mbP.drew
          replace mb0 := mb0.drew
          replace hw := hw.drew
          replace ho : OwnK wr.drew (w.heap.size + 1 + 1) (.slice oA k oc) k (keysK b k) := ho
          have hA := HAK.out.drew
          clear c0 c1 HAK
          generalize wr.drew = x0 at *
          refine mix_read (.agg #[.int .u64 (wb R), .slice oA k oc]) rfl rfl rfl rfl (fun w' hS => ?_) ?_
          · obtain ⟨k0, k1⟩ := hS
            go_simp
          repeat (refine mix_pure rfl rfl (fun K hK => ?_); go_simp; refine hK _ ?_; clear hK K)
          refine mix_eff rfl rfl (fun F hF => ?_)
          go_simp
          refine (rzero_v hA (by rw [HDL.out]; omega)).mono ?_
          rintro e w' ⟨rfl, rfl⟩
          refine hF _ _ (fun _ h => h) ?_
          clear hF F
          rw [← HOK.out]
          refine mix_eff rfl rfl (fun F hF => ?_)
          refine step_store_row rfl 78 _ _ rfl _ _ rfl rfl 78 _ mb0 (by exact rsize_ann) (by simp) (by simp [Value.oneCell']) ?_
          have hub : Upd w.heap.size x0 (x0.setRow w.heap.size #[.int .u64 (wb R), .slice oA k oc]) := (Upd.refl _ x0).setRow _
          have mbP1 := mbP.upd hub (by omega)
          have mb1 := mb0.row #[.int .u64 (wb R), .slice oA k oc]
          have hb1 := below_setRow hw (Nat.le_refl _) #[.int .u64 (wb R), .slice oA k oc]
          have ho1 := ho.upd hub (by omega)
          refine hF _ _ (fun _ _ => ⟨mbP1.cell 0, mbP1.cell 1⟩) ?_
          generalize x0.setRow w.heap.size #[.int .u64 (wb R), .slice oA k oc] = x1 at *
          clear hF F hub mb0 hw ho mbP
          repeat (refine mix_pure rfl rfl (fun K hK => ?_); go_simp; refine hK _ ?_; clear hK K)
          refine mix_nil ?_
          go_wp2_with fail
          refine bodyPost_ret (v := .tuple #[.agg #[.int .u64 (wb R), .slice oA k oc], .bool (okA b)]) (results_cell_tmp rfl _ _ _ _ _ _ _ _ rfl rfl mb1 Try.underlying78 rfl (by exact rsize_ann)) rfl ?_
          exact ⟨R, _, k, keysK b k, rfl, ho1.base (by omega), fun _ => ⟨hRV.symm, HAM'.out.symm, by rw [HAM'.out]; exact keysK_ok b H106.out k hk3⟩, hb1⟩
end Go.Proofs.Ytjnbgoiaocpcjaa
