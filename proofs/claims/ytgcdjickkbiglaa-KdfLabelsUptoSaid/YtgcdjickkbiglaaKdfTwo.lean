/- Labelled secrets, pairs and steps of a chain (kdf.Two, Derive, Step). -/
import Derived.Test.YtgcdjickkbiglaaKdfInfo
import Derived.Test.YtgcdjickkbiglaaKdfExpand
import Derived.Test.YtgcdjickkbiglaaOctXor
import Derived.Test.YtgcdjickkbiglaaStepSt
import Derived.Laws.Cover3
import Derived.Test.YtgcdjickkbiglaaBuild
namespace Go.Proofs.Ytgcdjickkbiglaa
open Go.RowKit
set_option linter.unusedVariables false
set_option linter.unusedSimpArgs false
def twoK (key label : List (BitVec 8)) (ls : List (List (BitVec 8))) : List (BitVec 8) := expand key (infoL label ls) 64
theorem twoK_length (key label : List (BitVec 8)) (ls : List (List (BitVec 8))) : (twoK key label ls).length = 64 := expand_length _ _ _
def PartsR (w : World) (PA : Option Addr) (ls : List (List (BitVec 8))) : Prop := ∃ vs : List Value, RdV w PA vs ∧ vs.length = ls.length ∧ ∀ i, i < ls.length → RowArg w (vs.getD i undef) (ls.getD i [])
theorem PartsR.below {w w' : World} {PA : Option Addr} {ls : List (List (BitVec 8))} (h : PartsR w PA ls) (hb : Below w.heap.size w w') : PartsR w' PA ls := by
  obtain ⟨vs, h1, h2, h3⟩ := h
  exact ⟨vs, h1.below hb, h2, fun i hi => (h3 i hi).below hb⟩
theorem sizeKeyT : (Try.prog.info? 25).map (·.size) = some 32 := sizeKey0
theorem RowArg.form {w : World} {v : Value} {l : List (BitVec 8)} {n : Nat} (h : RowArg w v l) (hn : l.length = n) : ∃ A c, v = .slice A n c ∧ n ≤ c ∧ Rd w .u8 A l := by
  obtain ⟨A, c, rfl, h1, h2, h3⟩ := h
  exact ⟨A, c, by rw [hn], by omega, h3⟩
theorem Rd.somewhere {w : World} {A : Option Addr} {l : List (BitVec 8)} (h : Rd w .u8 A l) (hl : 0 < l.length) : ∃ g off, A = some ⟨g, off, none⟩ := by
  obtain ⟨g, off, h1, _⟩ := h 0 hl
  exact ⟨g, off, h1⟩
theorem three_mem (w : World) (cs0 cs1 cs2 : Array Value) (t0 t1 t2 : TypeId) : Blk (((w.alloc (.cells cs0 t0)).alloc (.cells cs1 t1)).alloc (.cells cs2 t2)) w.heap.size cs0 t0 ∧
    Blk (((w.alloc (.cells cs0 t0)).alloc (.cells cs1 t1)).alloc (.cells cs2 t2)) (w.heap.size + 1) cs1 t1 ∧ Blk (((w.alloc (.cells cs0 t0)).alloc (.cells cs1 t1)).alloc (.cells cs2 t2)) (w.heap.size + 1 + 1) cs2 t2 ∧
    Below w.heap.size w (((w.alloc (.cells cs0 t0)).alloc (.cells cs1 t1)).alloc (.cells cs2 t2)) := by
  refine ⟨((Blk.new _ _ _).alloc _).alloc _, (Blk.new_at _ _ _ _ (by simp)).alloc _, Blk.new_at _ _ _ _ (by simp), (((Below.refl _ _).alloc (Nat.le_refl _) _).alloc (by simp) _).alloc (by simp; omega) _⟩
set_option maxRecDepth 100000 in
set_option maxHeartbeats 8000000 in
theorem two_any (key label : List (BitVec 8)) (ls : List (List (BitVec 8))) (PA : Option Addr) (pc : Nat) (w : World) (hk : key.length = 32)
    (hP : PartsR w PA ls) (hlab : label.length ≤ 1000) (hll : ls.length ≤ 1000) (hfl : ls.flatten.length ≤ 100000) :
    Calls Try.prog 20 #[.agg (encs .u8 key), .string (strB label), .slice PA ls.length pc] w fun e w' => e = .returned (.tuple #[.agg (encs .u8 ((twoK key label ls).take 32)), .agg (encs .u8 ((twoK key label ls).drop 32))]) ∧ Below w.heap.size w w' := by
  have HP := Lib.hid hP
  have HK := Lib.hid hk
  have HLAB := Lib.hid hlab
  have HLL := Lib.hid hll
  have HFL := Lib.hid hfl
  have HIL : Hid ((infoL label ls).length ≤ 1048576) := by show _ ≤ _; rw [infoL_length]; omega
  have H2L := Lib.hid (twoK_length key label ls)
  clear hP hlab hfl hk
  go_enter Try.func20, Try.ntmps20
  go_wp2_with fail
  obtain ⟨m0, m1, m2, hb⟩ := three_mem w (encs .u8 key) #[Value.int .u8 0, Value.int .u8 0, Value.int .u8 0, Value.int .u8 0, Value.int .u8 0, Value.int .u8 0, Value.int .u8 0, Value.int .u8 0, Value.int .u8 0, Value.int .u8 0, Value.int .u8 0, Value.int .u8 0, Value.int .u8 0, Value.int .u8 0, Value.int .u8 0, Value.int .u8 0, Value.int .u8 0, Value.int .u8 0, Value.int .u8 0, Value.int .u8 0, Value.int .u8 0, Value.int .u8 0, Value.int .u8 0, Value.int .u8 0, Value.int .u8 0, Value.int .u8 0, Value.int .u8 0, Value.int .u8 0, Value.int .u8 0, Value.int .u8 0, Value.int .u8 0, Value.int .u8 0] #[Value.int .u8 0, Value.int .u8 0, Value.int .u8 0, Value.int .u8 0, Value.int .u8 0, Value.int .u8 0, Value.int .u8 0, Value.int .u8 0, Value.int .u8 0, Value.int .u8 0, Value.int .u8 0, Value.int .u8 0, Value.int .u8 0, Value.int .u8 0, Value.int .u8 0, Value.int .u8 0, Value.int .u8 0, Value.int .u8 0, Value.int .u8 0, Value.int .u8 0, Value.int .u8 0, Value.int .u8 0, Value.int .u8 0, Value.int .u8 0, Value.int .u8 0, Value.int .u8 0, Value.int .u8 0, Value.int .u8 0, Value.int .u8 0, Value.int .u8 0, Value.int .u8 0, Value.int .u8 0] 25 25 25
  replace m1 : Blk _ (w.heap.size + 1) (encs .u8 z32s) 25 := m1
  replace m2 : Blk _ (w.heap.size + 1 + 1) (encs .u8 z32s) 25 := m2
  generalize ((w.alloc (.cells (encs .u8 key) 25)).alloc (.cells #[Value.int .u8 0, Value.int .u8 0, Value.int .u8 0, Value.int .u8 0, Value.int .u8 0, Value.int .u8 0, Value.int .u8 0, Value.int .u8 0, Value.int .u8 0, Value.int .u8 0, Value.int .u8 0, Value.int .u8 0, Value.int .u8 0, Value.int .u8 0, Value.int .u8 0, Value.int .u8 0, Value.int .u8 0, Value.int .u8 0, Value.int .u8 0, Value.int .u8 0, Value.int .u8 0, Value.int .u8 0, Value.int .u8 0, Value.int .u8 0, Value.int .u8 0, Value.int .u8 0, Value.int .u8 0, Value.int .u8 0, Value.int .u8 0, Value.int .u8 0, Value.int .u8 0, Value.int .u8 0] 25)).alloc (.cells #[Value.int .u8 0, Value.int .u8 0, Value.int .u8 0, Value.int .u8 0, Value.int .u8 0, Value.int .u8 0, Value.int .u8 0, Value.int .u8 0, Value.int .u8 0, Value.int .u8 0, Value.int .u8 0, Value.int .u8 0, Value.int .u8 0, Value.int .u8 0, Value.int .u8 0, Value.int .u8 0, Value.int .u8 0, Value.int .u8 0, Value.int .u8 0, Value.int .u8 0, Value.int .u8 0, Value.int .u8 0, Value.int .u8 0, Value.int .u8 0, Value.int .u8 0, Value.int .u8 0, Value.int .u8 0, Value.int .u8 0, Value.int .u8 0, Value.int .u8 0, Value.int .u8 0, Value.int .u8 0] 25) = W0 at *
  refine mix_start (fun w' => Below W0.heap.size W0 w') (List.range 10) [3, 4] [0] [] (by kernel_rfl) (by kernel_rfl) (fun d _ _ _ _ h => by cases d <;> exact h) (Below.refl _ _).drew ?_
  refine mix_load_row rfl rfl rfl rfl 25 _ rfl w.heap.size rfl _ 25 (0, 0) _ (fun w' hS => m0.below hS m0.lt) Try.underlying25 rfl (by rw [encs_size, HK.out]; exact sizeKey0) ?_
  have hP0 := (HP.out.below hb).below (Below.refl _ _).drew
  replace m1 := m1.drew
  replace m2 := m2.drew
  replace hb := hb.drew
  have hS0 : Below W0.heap.size W0 W0.drew := (Below.refl _ _).drew
  clear m0
  generalize W0.drew = w1 at *
  repeat (refine mix_pure rfl rfl (fun K hK => ?_); go_simp; refine hK _ ?_; clear hK K)
  refine mix_eff rfl rfl (fun K hK => ?_)
  go_simp
  obtain ⟨vs, hP1, hP2, hP3⟩ := hP0
  refine (info_any label ls vs PA pc w1 hP1 hP2 hP3 (by have := HLAB.out; omega) (by have := HLL.out; omega) (by have := HFL.out; omega)).mono ?_
  rintro e w2 ⟨v2, rfl, h2, hn⟩
  replace h2 : OwnB w2 w1.heap.size v2 (infoL label ls) := h2
  replace m1 := m1.below hn m1.lt
  replace m2 := m2.below hn m2.lt
  replace hb := hb.trans (hn.mono hb.size)
  replace hS0 := hS0.trans (hn.mono hS0.size)
  refine hK _ _ (fun _ _ => hS0) ?_
  clear hK K hn hP1 hP2 hP3
  repeat (refine mix_pure rfl rfl (fun K hK => ?_); go_simp; refine hK _ ?_; clear hK K)
  refine mix_eff rfl rfl (fun K hK => ?_)
  go_simp
  refine (expand_any key (infoL label ls) _ 64 w2 HK.out (h2.row (by have := HIL.out; omega)) HIL.out (by omega)).mono ?_
  rintro e w3 ⟨v3, rfl, h3, hv3, hn⟩
  replace h3 : RowArg w3 v3 (twoK key label ls) := h3
  have hm1 := m1.lt
  have hm2 := m2.lt
  replace m1 := m1.below hn m1.lt
  replace m2 := m2.below hn m2.lt
  replace hb := hb.trans (hn.mono hb.size)
  replace hS0 := hS0.trans (hn.mono hS0.size)
  refine hK _ _ (fun _ _ => hS0) ?_
  clear hK K hn h2
  repeat (refine mix_pure rfl rfl (fun K hK => ?_); go_simp; refine hK _ ?_; clear hK K)
  refine mix_nil ?_
  obtain ⟨A3, c3, rfl, hc3, hR3⟩ := h3.form H2L.out
  obtain ⟨g3, o3, rfl⟩ := hR3.somewhere (by rw [H2L.out]; omega)
  replace hv3 : w2.heap.size ≤ g3 := hv3 g3 rfl
  have n1 : g3 ≠ w.heap.size + 1 := by omega
  have n2 : g3 ≠ w.heap.size + 1 + 1 := by omega
  clear hS0 h3
  go_wp2_with fail
  have hs1 := fun wx => run_slice_to (P := Try.prog) bytesT (some ⟨g3, o3, none⟩) 64 c3 (32 : Int) .i64 (by omega) (by omega) wx
  rw [cutA_zero] at hs1
  replace hs1 : ∀ wx, (Instr.slice 22 (.slice (some ⟨g3, o3, none⟩) 64 c3) none (some (.int .i64 32)) none).run Try.prog wx = .ok (.slice (some ⟨g3, o3, none⟩) 32 c3) wx := hs1
  have hs2 := fun wx => run_slice_from (P := Try.prog) bytesT (some ⟨g3, o3, none⟩) 64 c3 (32 : Int) .i64 (by omega) (by omega) wx
  have hca : cutA (some ⟨g3, o3, none⟩) ((32 : Int).toNat) c3 1 = some ⟨g3, o3 + 32, none⟩ := by
    unfold cutA
    rw [if_neg (by simp; omega)]
    simp only [Option.map_some, add_lit]
    rfl
  rw [hca] at hs2
  replace hs2 : ∀ wx, (Instr.slice 22 (.slice (some ⟨g3, o3, none⟩) 64 c3) (some (.int .i64 32)) none none).run Try.prog wx = .ok (.slice (some ⟨g3, o3 + 32, none⟩) 32 (c3 - 32)) wx := hs2
  have hRt : Rd w3 .u8 (some ⟨g3, o3, none⟩) ((twoK key label ls).take 32) := rd_take hR3 32
  have hRd : Rd w3 .u8 (some ⟨g3, o3 + 32, none⟩) ((twoK key label ls).drop 32) := by
    have h := rd_cut hR3 32 32 c3 (by rw [H2L.out]; exact hc3)
    rw [show cutA (some ⟨g3, o3, none⟩) 32 c3 1 = some ⟨g3, o3 + 32, none⟩ from hca, List.take_of_length_le (by rw [List.length_drop, H2L.out]; omega)] at h
    exact h
  have HXL : Hid (((twoK key label ls).take 32).length = 32) := by show _ = _; rw [List.length_take, H2L.out]; rfl
  have HYL : Hid (((twoK key label ls).drop 32).length = 32) := by show _ = _; rw [List.length_drop, H2L.out]
  obtain ⟨X, hX⟩ : ∃ X, (twoK key label ls).take 32 = X := ⟨_, rfl⟩
  obtain ⟨Y, hY⟩ : ∃ Y, (twoK key label ls).drop 32 = Y := ⟨_, rfl⟩
  rw [hX] at hRt HXL
  rw [hY] at hRd HYL
  have HX := Lib.hid hX
  have HY := Lib.hid hY
  clear hX hY
  clear hca hR3
  have hat1 := fun wx => run_arrayAt (P := Try.prog) (w := wx) 25 5 32 (some ⟨g3, o3, none⟩) 32 c3 Try.underlying25 (Nat.le_refl _)
  have hat2 := fun wx => run_arrayAt (P := Try.prog) (w := wx) 25 5 32 (some ⟨g3, o3 + 32, none⟩) 32 (c3 - 32) Try.underlying25 (Nat.le_refl _)
  refine mix_start (fun w' => Rd w' .u8 (some ⟨g3, o3, none⟩) X ∧ Rd w' .u8 (some ⟨g3, o3 + 32, none⟩) Y) (List.range 10) [8, 9] [3, 7] [] (by kernel_rfl) (by kernel_rfl) (fun d _ _ _ _ h => by cases d <;> exact h) ⟨hRt, hRd⟩ ?_
  replace m1 := m1.drew
  replace m2 := m2.drew
  replace hb := hb.drew
  generalize w3.drew = w4 at *
  repeat (refine mix_pure rfl rfl (fun K hK => ?_); go_simp; refine hK _ ?_; clear hK K)
  refine mix_load_rd rfl rfl rfl rfl 25 _ rfl g3 o3 rfl .u8 X (fun w' hS => hS.1) _ Try.underlying25 rfl (by rw [HXL.out]; exact sizeKey0) ?_
  repeat (refine mix_pure rfl rfl (fun K hK => ?_); go_simp; refine hK _ ?_; clear hK K)
  refine mix_load_rd rfl rfl rfl rfl 25 _ rfl g3 (o3 + 32) rfl .u8 Y (fun w' hS => hS.2) _ Try.underlying25 rfl (by rw [HYL.out]; exact sizeKey0) ?_
  refine mix_eff rfl rfl (fun K hK => ?_)
  refine step_store_rowS rfl 25 _ _ rfl _ _ rfl rfl 25 _ m1 (by rw [encs_size, HXL.out]; exact sizeKey0) (by rw [encs_size, encs_size, HXL.out]; rfl) (encs_one _ _) ?_
  refine hK _ _ (fun _ h => ⟨h.1.upd' ((Upd.refl (w.heap.size + 1) _).setRow _) (fun a ha _ => by cases ha; exact n1), h.2.upd' ((Upd.refl (w.heap.size + 1) _).setRow _) (fun a ha _ => by cases ha; exact n1)⟩) ?_
  clear hK K
  replace m2 := m2.farRow (show w.heap.size + 1 + 1 ≠ w.heap.size + 1 by omega) (encs .u8 X)
  replace hb := below_setRow hb (show w.heap.size ≤ w.heap.size + 1 by omega) (encs .u8 X)
  replace m1 := m1.row (encs .u8 X)
  generalize w4.setRow (w.heap.size + 1) (encs .u8 X) = w5 at *
  refine mix_eff rfl rfl (fun K hK => ?_)
  refine step_store_rowS rfl 25 _ _ rfl _ _ rfl rfl 25 _ m2 (by rw [encs_size, HYL.out]; exact sizeKey0) (by rw [encs_size, encs_size, HYL.out]; rfl) (encs_one _ _) ?_
  refine hK _ _ (fun _ h => ⟨h.1.upd' ((Upd.refl (w.heap.size + 1 + 1) _).setRow _) (fun a ha _ => by cases ha; exact n2), h.2.upd' ((Upd.refl (w.heap.size + 1 + 1) _).setRow _) (fun a ha _ => by cases ha; exact n2)⟩) ?_
  clear hK K
  replace m1 := m1.farRow (show w.heap.size + 1 ≠ w.heap.size + 1 + 1 by omega) (encs .u8 Y)
  replace hb := below_setRow hb (show w.heap.size ≤ w.heap.size + 1 + 1 by omega) (encs .u8 Y)
  replace m2 := m2.row (encs .u8 Y)
  generalize w5.setRow (w.heap.size + 1 + 1) (encs .u8 Y) = w6 at *
  refine mix_nil ?_
  go_simp
  go_wp2_with fail
  refine bodyPost_ret (results_cell_cell rfl _ _ _ _ _ _ _ _ _ _ _ _ rfl rfl m1 m2 Try.underlying25 rfl (by rw [encs_size, HXL.out]; exact sizeKey0) Try.underlying25 rfl (by rw [encs_size, HYL.out]; exact sizeKey0)) rfl ?_
  exact ⟨by rw [HX.out, HY.out], hb⟩
set_option maxRecDepth 100000 in
set_option maxHeartbeats 8000000 in
theorem derive_any (key label : List (BitVec 8)) (ls : List (List (BitVec 8))) (PA : Option Addr) (pc : Nat) (w : World) (hk : key.length = 32)
    (hP : PartsR w PA ls) (hlab : label.length ≤ 1000) (hll : ls.length ≤ 1000) (hfl : ls.flatten.length ≤ 100000) :
    Calls Try.prog 24 #[.agg (encs .u8 key), .string (strB label), .slice PA ls.length pc] w fun e w' => e = .returned (.agg (encs .u8 ((twoK key label ls).take 32))) ∧ Below w.heap.size w w' := by
  have HP := Lib.hid hP
  have HK := Lib.hid hk
  have H2L := Lib.hid (twoK_length key label ls)
  have HT := Lib.hid (fun wx h => two_any key label ls PA pc wx hk h hlab hll hfl)
  clear hP hlab hfl hk hll
  have m0 : Blk ((w.alloc (.cells (encs .u8 key) 25)).alloc (.cells #[Value.int .u8 0, Value.int .u8 0, Value.int .u8 0, Value.int .u8 0, Value.int .u8 0, Value.int .u8 0, Value.int .u8 0, Value.int .u8 0, Value.int .u8 0, Value.int .u8 0, Value.int .u8 0, Value.int .u8 0, Value.int .u8 0, Value.int .u8 0, Value.int .u8 0, Value.int .u8 0, Value.int .u8 0, Value.int .u8 0, Value.int .u8 0, Value.int .u8 0, Value.int .u8 0, Value.int .u8 0, Value.int .u8 0, Value.int .u8 0, Value.int .u8 0, Value.int .u8 0, Value.int .u8 0, Value.int .u8 0, Value.int .u8 0, Value.int .u8 0, Value.int .u8 0, Value.int .u8 0] 25)) w.heap.size (encs .u8 key) 25 := (Blk.new _ _ _).alloc _
  have m1 : Blk ((w.alloc (.cells (encs .u8 key) 25)).alloc (.cells #[Value.int .u8 0, Value.int .u8 0, Value.int .u8 0, Value.int .u8 0, Value.int .u8 0, Value.int .u8 0, Value.int .u8 0, Value.int .u8 0, Value.int .u8 0, Value.int .u8 0, Value.int .u8 0, Value.int .u8 0, Value.int .u8 0, Value.int .u8 0, Value.int .u8 0, Value.int .u8 0, Value.int .u8 0, Value.int .u8 0, Value.int .u8 0, Value.int .u8 0, Value.int .u8 0, Value.int .u8 0, Value.int .u8 0, Value.int .u8 0, Value.int .u8 0, Value.int .u8 0, Value.int .u8 0, Value.int .u8 0, Value.int .u8 0, Value.int .u8 0, Value.int .u8 0, Value.int .u8 0] 25)) (w.heap.size + 1) (encs .u8 z32s) 25 := Blk.new_at _ _ _ _ (by simp)
  have hb : Below w.heap.size w ((w.alloc (.cells (encs .u8 key) 25)).alloc (.cells #[Value.int .u8 0, Value.int .u8 0, Value.int .u8 0, Value.int .u8 0, Value.int .u8 0, Value.int .u8 0, Value.int .u8 0, Value.int .u8 0, Value.int .u8 0, Value.int .u8 0, Value.int .u8 0, Value.int .u8 0, Value.int .u8 0, Value.int .u8 0, Value.int .u8 0, Value.int .u8 0, Value.int .u8 0, Value.int .u8 0, Value.int .u8 0, Value.int .u8 0, Value.int .u8 0, Value.int .u8 0, Value.int .u8 0, Value.int .u8 0, Value.int .u8 0, Value.int .u8 0, Value.int .u8 0, Value.int .u8 0, Value.int .u8 0, Value.int .u8 0, Value.int .u8 0, Value.int .u8 0] 25)) := ((Below.refl _ _).alloc (Nat.le_refl _) _).alloc (by simp) _
  have HXL : Hid (((twoK key label ls).take 32).length = 32) := by show _ = _; rw [List.length_take, H2L.out]; rfl
  have HYL : Hid (((twoK key label ls).drop 32).length = 32) := by show _ = _; rw [List.length_drop, H2L.out]
  generalize (twoK key label ls).take 32 = X at *
  generalize (twoK key label ls).drop 32 = Y at *
  go_enter Try.func24, Try.ntmps24
  go_wp2_with (first | (refine wpList_load_row rfl 25 _ rfl w.heap.size rfl 25 _ (0, 0) _ m0 Try.underlying25 rfl (by rw [encs_size, HK.out]; exact sizeKey0) ?_) | fail)
  refine (HT.out _ (HP.out.below hb)).mono ?_
  rintro e w1 ⟨rfl, hn⟩
  replace m1 := m1.below hn m1.lt
  replace hb := hb.trans (hn.mono hb.size)
  clear hn m0 HT
  obtain ⟨n2, n3, hn⟩ : Blk ((w1.alloc (.cells #[Value.int .u8 0, Value.int .u8 0, Value.int .u8 0, Value.int .u8 0, Value.int .u8 0, Value.int .u8 0, Value.int .u8 0, Value.int .u8 0, Value.int .u8 0, Value.int .u8 0, Value.int .u8 0, Value.int .u8 0, Value.int .u8 0, Value.int .u8 0, Value.int .u8 0, Value.int .u8 0, Value.int .u8 0, Value.int .u8 0, Value.int .u8 0, Value.int .u8 0, Value.int .u8 0, Value.int .u8 0, Value.int .u8 0, Value.int .u8 0, Value.int .u8 0, Value.int .u8 0, Value.int .u8 0, Value.int .u8 0, Value.int .u8 0, Value.int .u8 0, Value.int .u8 0, Value.int .u8 0] 25)).alloc (.cells #[Value.int .u8 0, Value.int .u8 0, Value.int .u8 0, Value.int .u8 0, Value.int .u8 0, Value.int .u8 0, Value.int .u8 0, Value.int .u8 0, Value.int .u8 0, Value.int .u8 0, Value.int .u8 0, Value.int .u8 0, Value.int .u8 0, Value.int .u8 0, Value.int .u8 0, Value.int .u8 0, Value.int .u8 0, Value.int .u8 0, Value.int .u8 0, Value.int .u8 0, Value.int .u8 0, Value.int .u8 0, Value.int .u8 0, Value.int .u8 0, Value.int .u8 0, Value.int .u8 0, Value.int .u8 0, Value.int .u8 0, Value.int .u8 0, Value.int .u8 0, Value.int .u8 0, Value.int .u8 0] 25)) w1.heap.size (encs .u8 z32s) 25 ∧ Blk ((w1.alloc (.cells #[Value.int .u8 0, Value.int .u8 0, Value.int .u8 0, Value.int .u8 0, Value.int .u8 0, Value.int .u8 0, Value.int .u8 0, Value.int .u8 0, Value.int .u8 0, Value.int .u8 0, Value.int .u8 0, Value.int .u8 0, Value.int .u8 0, Value.int .u8 0, Value.int .u8 0, Value.int .u8 0, Value.int .u8 0, Value.int .u8 0, Value.int .u8 0, Value.int .u8 0, Value.int .u8 0, Value.int .u8 0, Value.int .u8 0, Value.int .u8 0, Value.int .u8 0, Value.int .u8 0, Value.int .u8 0, Value.int .u8 0, Value.int .u8 0, Value.int .u8 0, Value.int .u8 0, Value.int .u8 0] 25)).alloc (.cells #[Value.int .u8 0, Value.int .u8 0, Value.int .u8 0, Value.int .u8 0, Value.int .u8 0, Value.int .u8 0, Value.int .u8 0, Value.int .u8 0, Value.int .u8 0, Value.int .u8 0, Value.int .u8 0, Value.int .u8 0, Value.int .u8 0, Value.int .u8 0, Value.int .u8 0, Value.int .u8 0, Value.int .u8 0, Value.int .u8 0, Value.int .u8 0, Value.int .u8 0, Value.int .u8 0, Value.int .u8 0, Value.int .u8 0, Value.int .u8 0, Value.int .u8 0, Value.int .u8 0, Value.int .u8 0, Value.int .u8 0, Value.int .u8 0, Value.int .u8 0, Value.int .u8 0, Value.int .u8 0] 25)) (w1.heap.size + 1) (encs .u8 z32s) 25 ∧ Below w1.heap.size w1 ((w1.alloc (.cells #[Value.int .u8 0, Value.int .u8 0, Value.int .u8 0, Value.int .u8 0, Value.int .u8 0, Value.int .u8 0, Value.int .u8 0, Value.int .u8 0, Value.int .u8 0, Value.int .u8 0, Value.int .u8 0, Value.int .u8 0, Value.int .u8 0, Value.int .u8 0, Value.int .u8 0, Value.int .u8 0, Value.int .u8 0, Value.int .u8 0, Value.int .u8 0, Value.int .u8 0, Value.int .u8 0, Value.int .u8 0, Value.int .u8 0, Value.int .u8 0, Value.int .u8 0, Value.int .u8 0, Value.int .u8 0, Value.int .u8 0, Value.int .u8 0, Value.int .u8 0, Value.int .u8 0, Value.int .u8 0] 25)).alloc (.cells #[Value.int .u8 0, Value.int .u8 0, Value.int .u8 0, Value.int .u8 0, Value.int .u8 0, Value.int .u8 0, Value.int .u8 0, Value.int .u8 0, Value.int .u8 0, Value.int .u8 0, Value.int .u8 0, Value.int .u8 0, Value.int .u8 0, Value.int .u8 0, Value.int .u8 0, Value.int .u8 0, Value.int .u8 0, Value.int .u8 0, Value.int .u8 0, Value.int .u8 0, Value.int .u8 0, Value.int .u8 0, Value.int .u8 0, Value.int .u8 0, Value.int .u8 0, Value.int .u8 0, Value.int .u8 0, Value.int .u8 0, Value.int .u8 0, Value.int .u8 0, Value.int .u8 0, Value.int .u8 0] 25)) :=
    ⟨(Blk.new _ _ _).alloc _, Blk.new_at _ _ _ _ (by simp), ((Below.refl _ _).alloc (Nat.le_refl _) _).alloc (by simp) _⟩
  have q1 : w.heap.size + 1 ≠ w1.heap.size := by have := m1.lt; omega
  have q2 : w.heap.size + 1 ≠ w1.heap.size + 1 := by have := m1.lt; omega
  have q3 := hb.size
  replace m1 := m1.below hn m1.lt
  replace hb := hb.trans (hn.mono hb.size)
  obtain ⟨w2, hw2⟩ : ∃ w2, w2 = ((w1.alloc (.cells #[Value.int .u8 0, Value.int .u8 0, Value.int .u8 0, Value.int .u8 0, Value.int .u8 0, Value.int .u8 0, Value.int .u8 0, Value.int .u8 0, Value.int .u8 0, Value.int .u8 0, Value.int .u8 0, Value.int .u8 0, Value.int .u8 0, Value.int .u8 0, Value.int .u8 0, Value.int .u8 0, Value.int .u8 0, Value.int .u8 0, Value.int .u8 0, Value.int .u8 0, Value.int .u8 0, Value.int .u8 0, Value.int .u8 0, Value.int .u8 0, Value.int .u8 0, Value.int .u8 0, Value.int .u8 0, Value.int .u8 0, Value.int .u8 0, Value.int .u8 0, Value.int .u8 0, Value.int .u8 0] 25)).alloc (.cells #[Value.int .u8 0, Value.int .u8 0, Value.int .u8 0, Value.int .u8 0, Value.int .u8 0, Value.int .u8 0, Value.int .u8 0, Value.int .u8 0, Value.int .u8 0, Value.int .u8 0, Value.int .u8 0, Value.int .u8 0, Value.int .u8 0, Value.int .u8 0, Value.int .u8 0, Value.int .u8 0, Value.int .u8 0, Value.int .u8 0, Value.int .u8 0, Value.int .u8 0, Value.int .u8 0, Value.int .u8 0, Value.int .u8 0, Value.int .u8 0, Value.int .u8 0, Value.int .u8 0, Value.int .u8 0, Value.int .u8 0, Value.int .u8 0, Value.int .u8 0, Value.int .u8 0, Value.int .u8 0] 25)).setRow w1.heap.size (encs .u8 X) := ⟨_, rfl⟩
  obtain ⟨w3, hw3⟩ : ∃ w3, w3 = w2.setRow (w1.heap.size + 1) (encs .u8 Y) := ⟨_, rfl⟩
  have k3 : Blk w2 (w1.heap.size + 1) (encs .u8 z32s) 25 := by rw [hw2]; exact n3.farRow (by omega) _
  have k2 : Blk w3 w1.heap.size (encs .u8 X) 25 := by rw [hw3, hw2]; exact (n2.row (encs .u8 X)).farRow (by omega) _
  have k1 : Blk w3 (w.heap.size + 1) (encs .u8 z32s) 25 := by rw [hw3, hw2]; exact (m1.farRow q1 _).farRow q2 _
  have kb : Below w.heap.size w w3 := by rw [hw3, hw2]; exact below_setRow (below_setRow hb q3 _) (by omega) _
  clear hb hn m1
  go_wp2_with (first | (refine wpList_store_row rfl 25 _ _ rfl _ _ rfl rfl 25 _ n2 (by rw [encs_size, HXL.out]; exact sizeKey0) (by rw [encs_size, encs_size, HXL.out]; rfl) (encs_one _ _) ?_; change wpList _ _ _ _ _ (((w1.alloc (.cells #[Value.int .u8 0, Value.int .u8 0, Value.int .u8 0, Value.int .u8 0, Value.int .u8 0, Value.int .u8 0, Value.int .u8 0, Value.int .u8 0, Value.int .u8 0, Value.int .u8 0, Value.int .u8 0, Value.int .u8 0, Value.int .u8 0, Value.int .u8 0, Value.int .u8 0, Value.int .u8 0, Value.int .u8 0, Value.int .u8 0, Value.int .u8 0, Value.int .u8 0, Value.int .u8 0, Value.int .u8 0, Value.int .u8 0, Value.int .u8 0, Value.int .u8 0, Value.int .u8 0, Value.int .u8 0, Value.int .u8 0, Value.int .u8 0, Value.int .u8 0, Value.int .u8 0, Value.int .u8 0] 25)).alloc (.cells #[Value.int .u8 0, Value.int .u8 0, Value.int .u8 0, Value.int .u8 0, Value.int .u8 0, Value.int .u8 0, Value.int .u8 0, Value.int .u8 0, Value.int .u8 0, Value.int .u8 0, Value.int .u8 0, Value.int .u8 0, Value.int .u8 0, Value.int .u8 0, Value.int .u8 0, Value.int .u8 0, Value.int .u8 0, Value.int .u8 0, Value.int .u8 0, Value.int .u8 0, Value.int .u8 0, Value.int .u8 0, Value.int .u8 0, Value.int .u8 0, Value.int .u8 0, Value.int .u8 0, Value.int .u8 0, Value.int .u8 0, Value.int .u8 0, Value.int .u8 0, Value.int .u8 0, Value.int .u8 0] 25)).setRow w1.heap.size (encs .u8 X)); rw [← hw2]; clear n2) | (refine wpList_store_row rfl 25 _ _ rfl _ _ rfl rfl 25 _ k3 (by rw [encs_size, HYL.out]; exact sizeKey0) (by rw [encs_size, encs_size, HYL.out]; rfl) (encs_one _ _) ?_; rw [← hw3]; clear k3) | (refine wpList_load_row rfl 25 _ rfl w1.heap.size rfl 25 _ (0, 0) _ k2 Try.underlying25 rfl (by rw [encs_size, HXL.out]; exact sizeKey0) ?_) | (refine wpList_store_row rfl 25 _ _ rfl _ _ rfl rfl 25 _ k1 (by rw [encs_size, HXL.out]; exact sizeKey0) (by rw [encs_size, encs_size, HXL.out]; rfl) (encs_one _ _) ?_) | fail)
  refine bodyPost_ret (v := .agg (encs .u8 X)) (results_cell_row rfl _ _ _ _ _ _ _ rfl (k1.row _) Try.underlying25 rfl (by rw [encs_size, HXL.out]; exact sizeKey0)) rfl ⟨rfl, below_setRow kb (by omega) _⟩
end Go.Proofs.Ytgcdjickkbiglaa
