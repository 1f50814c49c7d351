/- sha's step: a block is taken. -/
import Derived.Test.YtfamcgmgcchppaaShaWords
import Derived.Test.YtfamcgmgcchppaaClone
import Derived.Test.YtfamcgmgcchppaaBuild
namespace Go.Proofs.Ytfamcgmgcchppaa
open Go.RowKit
set_option linter.unusedVariables false
set_option linter.unusedSimpArgs false
/-- A hash's cells. -/
def hashL (st : List (BitVec 32)) (kv : Value) (rest : List (BitVec 8)) (n : Int) : List Value := encL .u32 st ++ ([kv] ++ (encL .u8 rest ++ [.int .i64 n]))
theorem hashL_length (st : List (BitVec 32)) (kv : Value) (rest : List (BitVec 8)) (n : Int) (hs : st.length = 8) (hr : rest.length = 64) : (hashL st kv rest n).length = 74 := by simp [hashL, encL_length, hs, hr]
theorem size64w : (Try.prog.info? 83).map (·.size) = some 64 := by kernel_rfl
theorem sizeW : (Try.prog.info? 72).map (·.size) = some 1 := by kernel_rfl
theorem shl24 (x : BitVec 32) : IntKind.u32.wrap (wb x * 16777216) = wb (x <<< 24) := shl_u32 x 24
theorem shl16 (x : BitVec 32) : IntKind.u32.wrap (wb x * 65536) = wb (x <<< 16) := shl_u32 x 16
theorem shl8 (x : BitVec 32) : IntKind.u32.wrap (wb x * 256) = wb (x <<< 8) := shl_u32 x 8
theorem shr3 (x : BitVec 32) : wb x / (8 : Int) = wb (x >>> 3) := wb_shr x 3
theorem shr10 (x : BitVec 32) : wb x / (1024 : Int) = wb (x >>> 10) := wb_shr x 10
theorem conv8_32 (x : BitVec 8) : IntKind.u32.wrap (wb x) = wb (x.setWidth 32) := conv_u32 x
attribute [local go_sem] shl24 shl16 shl8 shr3 shr10 conv8_32 bits_or_u32 bits_xor_u32 bits_and_u32 add_u32
theorem rd_at {w : World} {k : IntKind} {n g off : Nat} {l : List (BitVec n)} (h : Rd w k (some ⟨g, off, none⟩) l) (i : Nat) (hi : i < l.length) : w.cell? ⟨g, off + i, none⟩ = some (.int k (wb (l.getD i 0))) := by
  obtain ⟨g', off', h1, h2⟩ := h i hi
  cases h1
  exact h2
theorem build8 (t : S8) (w : World) : (Instr.build 85 #[(0, .int .u32 (wb t.a)), (1, .int .u32 (wb t.b)), (2, .int .u32 (wb t.c)), (3, .int .u32 (wb t.d)), (4, .int .u32 (wb t.e)), (5, .int .u32 (wb t.f)), (6, .int .u32 (wb t.g)), (7, .int .u32 (wb t.h))]).run Try.prog w = .ok (.agg (encs .u32 t.l)) w := by kernel_rfl
theorem hash_cell {w : World} {g : Nat} {s : List (BitVec 32)} {kv : Value} {rest : List (BitVec 8)} {n : Int} (h : Blk w g (hashL s kv rest n).toArray 101) (hs : s.length = 8) (i : Nat) (hi : i < 8) : w.cell? ⟨g, i, none⟩ = some (.int .u32 (wb (s.getD i 0))) := by
  rw [h.cell, List.getElem?_toArray, hashL, List.getElem?_append_left (by rw [encL_length]; omega), encL_get _ _ _ (by omega)]
theorem hash_set {w : World} {g : Nat} {s : List (BitVec 32)} {kv : Value} {rest : List (BitVec 8)} {n : Int} (h : Blk w g (hashL s kv rest n).toArray 101) (hs : s.length = 8) (i : Nat) (hi : i < 8) (x : BitVec 32) : Blk (w.setCell ⟨g, i, none⟩ (.int .u32 (wb x))) g (hashL (s.set i x) kv rest n).toArray 101 := by
  have := h.set i (.int .u32 (wb x))
  have e : (hashL s kv rest n).toArray.setIfInBounds i (.int .u32 (wb x)) = (hashL (s.set i x) kv rest n).toArray := by
    rw [List.setIfInBounds_toArray, hashL, List.set_append_left _ _ (by rw [encL_length]; omega)]
    simp [hashL, encL, List.map_set]
  rwa [e] at this
/-- What a step leaves. -/
def StepD (w : World) (g : Nat) (l : List Value) (e : Ending) (w' : World) : Prop := e = .returned (.tuple #[]) ∧ Blk w' g l.toArray 101 ∧ Upd g w w'
set_option maxRecDepth 100000 in
set_option maxHeartbeats 8000000 in
theorem step_any (g : Nat) (st : S8) (kA : Option Addr) (kc : Nat) (rest : List (BitVec 8)) (n : Int) (b : List (BitVec 8)) (A : Option Addr) (len cap : Nat) (w : World)
    (hB : Blk w g (hashL st.l (.slice kA 64 kc) rest n).toArray 101) (hK : Rd w .u32 kA shK) (hkf : ∀ a, kA = some a → a.block ≠ g) (hr64 : rest.length = 64) (hR : Rd w .u8 A b) (hlen : 64 ≤ b.length) (hl : b.length = len) :
    Calls Try.prog 46 #[.pointer (some ⟨g, 0, none⟩), .slice A len cap] w (StepD w g (hashL (comp st b).l (.slice kA 64 kc) rest n)) := by
  obtain ⟨ga, oa, rfl, _⟩ := hR 0 (by omega)
  obtain ⟨gk, ok, rfl, _⟩ := hK 0 (by rw [shK_length]; omega)
  have HLEN := Lib.hid hlen
  have hlen64 : (64 : Int) ≤ (len : Int) := by omega
  have HKL := Lib.hid shK_length
  have HB := Lib.hid hB
  have HKR := Lib.hid hK
  have HR := Lib.hid hR
  have HG := Lib.hid hB.lt
  clear hB hK hR hlen hl
  go_enter Try.func46, Try.ntmps46
  go_wp2_with fail
  go_loopw [23] (fun i wr => ∃ k : Nat, k ≤ 16 ∧ i = .int .i64 k ∧ Blk wr w.heap.size (encs .u32 (wArr b k)) 83 ∧ Below w.heap.size w wr) (fun i _ => 16 - (intOf i).toNat)
  case atStart => exact ⟨0, by omega, rfl, Blk.new _ _ _, (Below.refl _ _).alloc (Nat.le_refl _) _⟩
  case round =>
    obtain ⟨k, hk, rfl, hW, hb⟩ := hrel
    by_cases hlt : k < 16
    · have i1 : (k : Int) < 16 := by omega
      have i0 : (k : Int) < 64 := by omega
      have i2 : (0 : Int) ≤ 4 * (k : Int) := by omega
      have i7 : IntKind.i64.wrap (4 * (k : Int)) = 4 * (k : Int) := IntWalk.i64_in _ (by omega)
      have i8 : IntKind.i64.wrap (4 * (k : Int) + 1) = 4 * (k : Int) + 1 := IntWalk.i64_in _ (by omega)
      have i9 : IntKind.i64.wrap (4 * (k : Int) + 2) = 4 * (k : Int) + 2 := IntWalk.i64_in _ (by omega)
      have i10 : IntKind.i64.wrap (4 * (k : Int) + 3) = 4 * (k : Int) + 3 := IntWalk.i64_in _ (by omega)
      have j0 : (4 * (k : Int)).toNat = 4 * k := by omega
      have j1 : (4 * (k : Int) + 1).toNat = 4 * k + 1 := by omega
      have j2 : (4 * (k : Int) + 2).toNat = 4 * k + 2 := by omega
      have j3 : (4 * (k : Int) + 3).toNat = 4 * k + 3 := by omega
      have k1 : (0 : Int) ≤ 4 * (k : Int) + 1 := by omega
      have k2 : (0 : Int) ≤ 4 * (k : Int) + 2 := by omega
      have k3 : (0 : Int) ≤ 4 * (k : Int) + 3 := by omega
      have i3 : 4 * (k : Int) < (len : Int) := by omega
      have i4 : 4 * (k : Int) + 1 < (len : Int) := by omega
      have i5 : 4 * (k : Int) + 2 < (len : Int) := by omega
      have i6 : 4 * (k : Int) + 3 < (len : Int) := by omega
      have HN : Hid (be32 b k = (b.getD (4 * k) 0).setWidth 32 <<< 24 ||| (b.getD (4 * k + 1) 0).setWidth 32 <<< 16 ||| (b.getD (4 * k + 2) 0).setWidth 32 <<< 8 ||| (b.getD (4 * k + 3) 0).setWidth 32) := rfl
      have c0 := rd_at (HR.out.below hb) (4 * k) (by have := HLEN.out; omega)
      have c1 := rd_at (HR.out.below hb) (4 * k + 1) (by have := HLEN.out; omega)
      have c2 := rd_at (HR.out.below hb) (4 * k + 2) (by have := HLEN.out; omega)
      have c3 := rd_at (HR.out.below hb) (4 * k + 3) (by have := HLEN.out; omega)
      generalize b.getD (4 * k) 0 = x0 at *
      generalize b.getD (4 * k + 1) 0 = x1 at *
      generalize b.getD (4 * k + 2) 0 = x2 at *
      generalize b.getD (4 * k + 3) 0 = x3 at *
      go_wp2_with fail
      refine mix_start (fun w' => Below wr.heap.size wr w') (List.range 36) [35] [5, 13, 22, 31] [35] (by kernel_rfl) (by kernel_rfl) (fun d _ _ _ _ h => by cases d <;> exact h) ?_ ?_
      · exact (Below.refl _ _).drew
      repeat (refine mix_pure rfl rfl (fun K hK => ?_); go_simp; refine hK _ ?_; clear hK K)
      refine mix_read (.int .u8 (wb x0)) rfl rfl rfl rfl (fun w' hS => ?_) ?_
      · have hc' := below_cell hS c0
        go_simp
      repeat (refine mix_pure rfl rfl (fun K hK => ?_); go_simp; refine hK _ ?_; clear hK K)
      refine mix_read (.int .u8 (wb x1)) rfl rfl rfl rfl (fun w' hS => ?_) ?_
      · have hc' := below_cell hS c1
        go_simp
      repeat (refine mix_pure rfl rfl (fun K hK => ?_); go_simp; refine hK _ ?_; clear hK K)
      refine mix_read (.int .u8 (wb x2)) rfl rfl rfl rfl (fun w' hS => ?_) ?_
      · have hc' := below_cell hS c2
        go_simp
      repeat (refine mix_pure rfl rfl (fun K hK => ?_); go_simp; refine hK _ ?_; clear hK K)
      refine mix_read (.int .u8 (wb x3)) rfl rfl rfl rfl (fun w' hS => ?_) ?_
      · have hc' := below_cell hS c3
        go_simp
      repeat (refine mix_pure rfl rfl (fun K hK => ?_); go_simp; refine hK _ ?_; clear hK K)
      have h1 := hW.drew.word k (by rw [wArr_length _ _ (by omega)]; omega)
      have h2 := hW.drew.frozen k
      refine mix_ds rfl rfl rfl (fun K hK => ?_)
      go_simp
      refine hK _ _ ?_
      clear hK K
      clear h1 h2
      repeat (refine mix_pure rfl rfl (fun K hK => ?_); go_simp; refine hK _ ?_; clear hK K)
      refine mix_nil ?_
      go_wp2_with fail
      go_roundw
      case rel =>
        refine ⟨k + 1, by omega, by go_num, ?_, below_setCell hb.drew (Nat.le_refl _) _ _⟩
        have := hW.drew.put k (be32 b k)
        rw [wArr_low b k (by omega), HN.out] at this
        exact this
      case measure => simp [intOf]; omega
    · obtain rfl : k = 16 := by omega
      go_wp2_with fail
      go_loopw [6] (fun i wr => ∃ k : Nat, 16 ≤ k ∧ k ≤ 64 ∧ i = .int .i64 k ∧ Blk wr w.heap.size (encs .u32 (wArr b k)) 83 ∧ Below w.heap.size w wr) (fun i _ => 64 - (intOf i).toNat)
      case atStart => exact ⟨16, by omega, by omega, rfl, hW, hb⟩
      case round =>
        clear hW hb
        obtain ⟨k, hk, hk64, rfl, hW, hb⟩ := hrel
        by_cases hlt : k < 64
        · have i1 : (k : Int) < 64 := by omega
          have i2 : (16 : Int) ≤ (k : Int) := by omega
          have c15 := hW.word (k - 15) (by rw [wArr_length _ _ (by omega)]; omega)
          have c2 := hW.word (k - 2) (by rw [wArr_length _ _ (by omega)]; omega)
          have c16 := hW.word (k - 16) (by rw [wArr_length _ _ (by omega)]; omega)
          have c7 := hW.word (k - 7) (by rw [wArr_length _ _ (by omega)]; omega)
          rw [wArr_getD _ _ _ (by omega)] at c15 c2 c16 c7
          have HN : Hid (wnext (wl b k) k = (wl b k).getD (k - 16) 0 + (wl b k).getD (k - 7) 0 + (rotr ((wl b k).getD (k - 15) 0) 7 ^^^ rotr ((wl b k).getD (k - 15) 0) 18 ^^^ (wl b k).getD (k - 15) 0 >>> 3) + (rotr ((wl b k).getD (k - 2) 0) 17 ^^^ rotr ((wl b k).getD (k - 2) 0) 19 ^^^ (wl b k).getD (k - 2) 0 >>> 10)) := rfl
          generalize (wl b k).getD (k - 15) 0 = x at *
          generalize (wl b k).getD (k - 2) 0 = y at *
          generalize (wl b k).getD (k - 16) 0 = x16 at *
          generalize (wl b k).getD (k - 7) 0 = x7 at *
          have i3 : IntKind.i64.wrap ((k : Int) - 15) = ((k - 15 : Nat) : Int) := by rw [IntWalk.i64_in _ (by omega)]; omega
          have i4 : IntKind.i64.wrap ((k : Int) - 2) = ((k - 2 : Nat) : Int) := by rw [IntWalk.i64_in _ (by omega)]; omega
          have i5 : IntKind.i64.wrap ((k : Int) - 16) = ((k - 16 : Nat) : Int) := by rw [IntWalk.i64_in _ (by omega)]; omega
          have i6 : IntKind.i64.wrap ((k : Int) - 7) = ((k - 7 : Nat) : Int) := by rw [IntWalk.i64_in _ (by omega)]; omega
          have j3 : ((k - 15 : Nat) : Int) < 64 := by omega
          have j4 : ((k - 2 : Nat) : Int) < 64 := by omega
          have j5 : ((k - 16 : Nat) : Int) < 64 := by omega
          have j6 : ((k - 7 : Nat) : Int) < 64 := by omega
          go_wp2_with fail
          refine mix_start (fun w' => Below wr.heap.size wr w') (List.range 10) [] [3, 7] [] (by kernel_rfl) (by kernel_rfl) (fun d _ _ _ _ h => by cases d <;> exact h) ?_ ?_
          · exact (Below.refl _ _).drew
          repeat (refine mix_pure rfl rfl (fun K hK => ?_); go_simp; refine hK _ ?_; clear hK K)
          refine mix_read (.int .u32 (wb x)) rfl rfl rfl rfl (fun w' hS => ?_) ?_
          · have hc' := below_cell hS c15
            go_simp
          repeat (refine mix_pure rfl rfl (fun K hK => ?_); go_simp; refine hK _ ?_; clear hK K)
          refine mix_read (.int .u32 (wb y)) rfl rfl rfl rfl (fun w' hS => ?_) ?_
          · have hc' := below_cell hS c2
            go_simp
          repeat (refine mix_pure rfl rfl (fun K hK => ?_); go_simp; refine hK _ ?_; clear hK K)
          refine mix_nil ?_
          go_wp2_with fail
          refine mix_start (fun w' => Below wr.heap.size wr w') [0, 1, 2, 3, 4, 5, 6, 7, 8, 9, 10, 12, 15, 16, 19, 21, 24, 25, 11, 13, 14, 17, 18, 20, 22, 23, 26, 27, 28, 29] [11, 13, 20, 22, 29] [4, 8] [29] (by kernel_rfl) (by kernel_rfl) (fun d _ _ _ _ h => by cases d <;> exact h) ?_ ?_
          · exact (Below.refl _ _).drew.drew
          repeat (refine mix_pure rfl rfl (fun K hK => ?_); go_simp; refine hK _ ?_; clear hK K)
          refine mix_read (.int .u32 (wb x16)) rfl rfl rfl rfl (fun w' hS => ?_) ?_
          · have hc' := below_cell hS c16
            go_simp
          repeat (refine mix_pure rfl rfl (fun K hK => ?_); go_simp; refine hK _ ?_; clear hK K)
          refine mix_read (.int .u32 (wb x7)) rfl rfl rfl rfl (fun w' hS => ?_) ?_
          · have hc' := below_cell hS c7
            go_simp
          repeat (refine mix_pure rfl rfl (fun K hK => ?_); go_simp; refine hK _ ?_; clear hK K)
          refine mix_eff rfl rfl (fun K hK => ?_)
          go_simp
          refine (turn_any x 7 (by omega) _).mono ?_
          rintro e w' ⟨rfl, rfl⟩
          refine hK _ _ (fun _ h => h.drew) ?_
          clear hK K
          repeat (refine mix_pure rfl rfl (fun K hK => ?_); go_simp; refine hK _ ?_; clear hK K)
          refine mix_eff rfl rfl (fun K hK => ?_)
          go_simp
          refine (turn_any x 18 (by omega) _).mono ?_
          rintro e w' ⟨rfl, rfl⟩
          refine hK _ _ (fun _ h => h.drew) ?_
          clear hK K
          repeat (refine mix_pure rfl rfl (fun K hK => ?_); go_simp; refine hK _ ?_; clear hK K)
          refine mix_eff rfl rfl (fun K hK => ?_)
          go_simp
          refine (turn_any y 17 (by omega) _).mono ?_
          rintro e w' ⟨rfl, rfl⟩
          refine hK _ _ (fun _ h => h.drew) ?_
          clear hK K
          repeat (refine mix_pure rfl rfl (fun K hK => ?_); go_simp; refine hK _ ?_; clear hK K)
          refine mix_eff rfl rfl (fun K hK => ?_)
          go_simp
          refine (turn_any y 19 (by omega) _).mono ?_
          rintro e w' ⟨rfl, rfl⟩
          refine hK _ _ (fun _ h => h.drew) ?_
          clear hK K
          repeat (refine mix_pure rfl rfl (fun K hK => ?_); go_simp; refine hK _ ?_; clear hK K)
          replace hW : Blk wr.drew.drew.drew.drew.drew.drew w.heap.size (encs .u32 (wArr b k)) 83 := hW
          replace hb := hb.drew.drew.drew.drew.drew.drew
          generalize wr.drew.drew.drew.drew.drew.drew = w6 at *
          have h1 := hW.word k (by rw [wArr_length _ _ (by omega)]; omega)
          have h2 := hW.frozen k
          refine mix_ds rfl rfl rfl (fun K hK => ?_)
          go_simp
          refine hK _ _ ?_
          clear hK K
          clear h1 h2
          repeat (refine mix_pure rfl rfl (fun K hK => ?_); go_simp; refine hK _ ?_; clear hK K)
          refine mix_nil ?_
          go_wp2_with fail
          go_roundw
          case rel =>
            have h3 := hW.put k (wnext (wl b k) k)
            rw [wArr_high b k (by omega) (by omega), HN.out] at h3
            first | exact ⟨k + 1, by omega, by omega, by go_num, h3, below_setCell hb (Nat.le_refl _) _ _⟩ | ((repeat apply Exists.intro); exact ⟨⟨k + 1, by omega, by omega, by go_num, h3, below_setCell hb (Nat.le_refl _) _ _⟩, rfl⟩)
          case measure => simp [intOf]; omega
        · obtain rfl : k = 64 := by omega
          have hBg := HB.out.below hb HG.out
          have s0 : wr.cell? ⟨g, 0, none⟩ = some (.int .u32 (wb st.a)) := hBg.cellSeg [] _ rfl rfl
          have s1 : wr.cell? ⟨g, 1, none⟩ = some (.int .u32 (wb st.b)) := hBg.cellSeg [.int .u32 (wb st.a)] _ rfl rfl
          have s2 : wr.cell? ⟨g, 2, none⟩ = some (.int .u32 (wb st.c)) := hBg.cellSeg [.int .u32 (wb st.a), .int .u32 (wb st.b)] _ rfl rfl
          have s3 : wr.cell? ⟨g, 3, none⟩ = some (.int .u32 (wb st.d)) := hBg.cellSeg [.int .u32 (wb st.a), .int .u32 (wb st.b), .int .u32 (wb st.c)] _ rfl rfl
          have s4 : wr.cell? ⟨g, 4, none⟩ = some (.int .u32 (wb st.e)) := hBg.cellSeg [.int .u32 (wb st.a), .int .u32 (wb st.b), .int .u32 (wb st.c), .int .u32 (wb st.d)] _ rfl rfl
          have s5 : wr.cell? ⟨g, 5, none⟩ = some (.int .u32 (wb st.f)) := hBg.cellSeg [.int .u32 (wb st.a), .int .u32 (wb st.b), .int .u32 (wb st.c), .int .u32 (wb st.d), .int .u32 (wb st.e)] _ rfl rfl
          have s6 : wr.cell? ⟨g, 6, none⟩ = some (.int .u32 (wb st.g)) := hBg.cellSeg [.int .u32 (wb st.a), .int .u32 (wb st.b), .int .u32 (wb st.c), .int .u32 (wb st.d), .int .u32 (wb st.e), .int .u32 (wb st.f)] _ rfl rfl
          have s7 : wr.cell? ⟨g, 7, none⟩ = some (.int .u32 (wb st.h)) := hBg.cellSeg [.int .u32 (wb st.a), .int .u32 (wb st.b), .int .u32 (wb st.c), .int .u32 (wb st.d), .int .u32 (wb st.e), .int .u32 (wb st.f), .int .u32 (wb st.g)] _ rfl rfl
          clear hBg
          go_wp2_with fail
          refine mix_start (fun w' => Below wr.heap.size wr w') (List.range 48) [] [4, 9, 14, 19, 24, 29, 34, 39] [] (by kernel_rfl) (by kernel_rfl) (fun d _ _ _ _ h => by cases d <;> exact h) ?_ ?_
          · exact (Below.refl _ _).drew
          repeat (refine mix_pure rfl rfl (fun K hK => ?_); go_simp; refine hK _ ?_; clear hK K)
          refine mix_read (.int .u32 (wb st.a)) rfl rfl rfl rfl (fun w' hS => ?_) ?_
          · have hc' := below_cell hS s0
            go_simp
          repeat (refine mix_pure rfl rfl (fun K hK => ?_); go_simp; refine hK _ ?_; clear hK K)
          refine mix_read (.int .u32 (wb st.b)) rfl rfl rfl rfl (fun w' hS => ?_) ?_
          · have hc' := below_cell hS s1
            go_simp
          repeat (refine mix_pure rfl rfl (fun K hK => ?_); go_simp; refine hK _ ?_; clear hK K)
          refine mix_read (.int .u32 (wb st.c)) rfl rfl rfl rfl (fun w' hS => ?_) ?_
          · have hc' := below_cell hS s2
            go_simp
          repeat (refine mix_pure rfl rfl (fun K hK => ?_); go_simp; refine hK _ ?_; clear hK K)
          refine mix_read (.int .u32 (wb st.d)) rfl rfl rfl rfl (fun w' hS => ?_) ?_
          · have hc' := below_cell hS s3
            go_simp
          repeat (refine mix_pure rfl rfl (fun K hK => ?_); go_simp; refine hK _ ?_; clear hK K)
          refine mix_read (.int .u32 (wb st.e)) rfl rfl rfl rfl (fun w' hS => ?_) ?_
          · have hc' := below_cell hS s4
            go_simp
          repeat (refine mix_pure rfl rfl (fun K hK => ?_); go_simp; refine hK _ ?_; clear hK K)
          refine mix_read (.int .u32 (wb st.f)) rfl rfl rfl rfl (fun w' hS => ?_) ?_
          · have hc' := below_cell hS s5
            go_simp
          repeat (refine mix_pure rfl rfl (fun K hK => ?_); go_simp; refine hK _ ?_; clear hK K)
          refine mix_read (.int .u32 (wb st.g)) rfl rfl rfl rfl (fun w' hS => ?_) ?_
          · have hc' := below_cell hS s6
            go_simp
          repeat (refine mix_pure rfl rfl (fun K hK => ?_); go_simp; refine hK _ ?_; clear hK K)
          refine mix_read (.int .u32 (wb st.h)) rfl rfl rfl rfl (fun w' hS => ?_) ?_
          · have hc' := below_cell hS s7
            go_simp
          repeat (refine mix_pure rfl rfl (fun K hK => ?_); go_simp; refine hK _ ?_; clear hK K)
          refine mix_nil ?_
          clear s0 s1 s2 s3 s4 s5 s6 s7
          rw [wArr_all] at hW
          have HWL := Lib.hid (wl_length b 64)
          have HRS : Hid (∀ k, rounds b st (k + 1) = (rounds b st k).round (shK.getD k 0) ((wl b 64).getD k 0)) := fun k => rfl
          generalize wl b 64 = WL at *
          have hW' := Blk.drew hW
          have hb' := hb.drew
          generalize wr.drew = w2 at *
          clear hW hb hk hk64 hlt
          go_wp2_with (first | (refine wpList_load_row rfl 83 _ rfl _ rfl 83 _ (0, 0) _ hW' Try.underlying83 rfl (by rw [encs_size, HWL.out]; exact size64w) ?_) | fail)
          go_loopw [144, 9, 10, 11, 12, 13, 14, 15, 16] (fun i va vb vc vd ve vf vg vh wr => ∃ k : Nat, k ≤ 64 ∧ i = .int .i64 k ∧ va = .int .u32 (wb (rounds b st k).a) ∧ vb = .int .u32 (wb (rounds b st k).b) ∧ vc = .int .u32 (wb (rounds b st k).c) ∧ vd = .int .u32 (wb (rounds b st k).d) ∧ ve = .int .u32 (wb (rounds b st k).e) ∧ vf = .int .u32 (wb (rounds b st k).f) ∧ vg = .int .u32 (wb (rounds b st k).g) ∧ vh = .int .u32 (wb (rounds b st k).h) ∧ Below w.heap.size w wr) (fun i _ _ _ _ _ _ _ _ _ => 64 - (intOf i).toNat)
          case atStart => exact ⟨0, by omega, rfl, rfl, rfl, rfl, rfl, rfl, rfl, rfl, rfl, hb'⟩
          case round =>
            clear hb' hW'
            obtain ⟨k, hk, rfl, rfl, rfl, rfl, rfl, rfl, rfl, rfl, rfl, hb⟩ := hrel
            by_cases hlt : k < 64
            · have i1 : (k : Int) < 64 := by omega
              have HRk := Lib.hid (HRS.out k)
              have hix := fun wx => run_index_encs (P := Try.prog) 83 72 .i64 .u32 Try.underlying83 Try.underlying72 sizeW WL .u32 (k : Int) (by omega) (by rw [HWL.out]; omega) HWL.out wx
              rw [Int.toNat_natCast] at hix
              have ck := rd_at (HKR.out.below hb) k (by rw [HKL.out]; omega)
              have c8 : wr.cell? ⟨g, 8, none⟩ = some (.slice (some ⟨gk, ok, none⟩) 64 kc) := (HB.out.below hb HG.out).cellSeg (encL .u32 st.l) _ rfl rfl
              generalize rounds b st k = r at *
              generalize WL.getD k 0 = xx at *
              generalize shK.getD k 0 = kk at *
              go_wp2_with fail
              refine mix_start (fun w' => Below wr.heap.size wr w') [0, 1, 3, 6, 10, 11, 12, 13, 14, 15, 16, 18, 19, 20, 21, 22, 23, 24, 26, 2, 4, 5, 7, 8, 9, 17, 25, 27, 28] [2, 4, 7] [21, 24] [] (by kernel_rfl) (by kernel_rfl) (fun d _ _ _ _ h => by cases d <;> exact h) ?_ ?_
              · exact (Below.refl _ _).drew
              repeat (refine mix_pure rfl rfl (fun K hK => ?_); go_simp; refine hK _ ?_; clear hK K)
              refine mix_read (.slice (some ⟨gk, ok, none⟩) 64 kc) rfl rfl rfl rfl (fun w' hS => ?_) ?_
              · have hc' := below_cell hS c8
                go_simp
              repeat (refine mix_pure rfl rfl (fun K hK => ?_); go_simp; refine hK _ ?_; clear hK K)
              refine mix_read (.int .u32 (wb kk)) rfl rfl rfl rfl (fun w' hS => ?_) ?_
              · have hc' := below_cell hS ck
                go_simp
              repeat (refine mix_pure rfl rfl (fun K hK => ?_); go_simp; refine hK _ ?_; clear hK K)
              refine mix_eff rfl rfl (fun K hK => ?_)
              go_simp
              refine (turn_any r.e 6 (by omega) _).mono ?_
              rintro e w' ⟨rfl, rfl⟩
              refine hK _ _ (fun _ h => h.drew) ?_
              clear hK K
              repeat (refine mix_pure rfl rfl (fun K hK => ?_); go_simp; refine hK _ ?_; clear hK K)
              refine mix_eff rfl rfl (fun K hK => ?_)
              go_simp
              refine (turn_any r.e 11 (by omega) _).mono ?_
              rintro e w' ⟨rfl, rfl⟩
              refine hK _ _ (fun _ h => h.drew) ?_
              clear hK K
              repeat (refine mix_pure rfl rfl (fun K hK => ?_); go_simp; refine hK _ ?_; clear hK K)
              refine mix_eff rfl rfl (fun K hK => ?_)
              go_simp
              refine (turn_any r.e 25 (by omega) _).mono ?_
              rintro e w' ⟨rfl, rfl⟩
              refine hK _ _ (fun _ h => h.drew) ?_
              clear hK K
              repeat (refine mix_pure rfl rfl (fun K hK => ?_); go_simp; refine hK _ ?_; clear hK K)
              refine mix_nil ?_
              replace hb := hb.drew.drew.drew.drew
              generalize wr.drew.drew.drew.drew = w6 at *
              go_wp2_with fail
              refine (turn_any r.a 2 (by omega) _).mono ?_
              rintro e w' ⟨rfl, rfl⟩
              go_wp2_with fail
              refine (turn_any r.a 13 (by omega) _).mono ?_
              rintro e w' ⟨rfl, rfl⟩
              go_wp2_with fail
              refine (turn_any r.a 22 (by omega) _).mono ?_
              rintro e w' ⟨rfl, rfl⟩
              go_wp2_with fail
              go_roundw
              case rel => exact ⟨k + 1, by omega, by go_num, by rw [HRk.out]; rfl, by rw [HRk.out]; rfl, by rw [HRk.out]; rfl, by rw [HRk.out]; rfl, by rw [HRk.out]; rfl, by rw [HRk.out]; rfl, by rw [HRk.out]; rfl, by rw [HRk.out]; rfl, hb.drew.drew.drew⟩
              case measure => simp [intOf]; omega
            · obtain rfl : k = 64 := by omega
              have HC : Hid (comp st b = st.add (rounds b st 64)) := rfl
              generalize rounds b st 64 = t at *
              have hbu := build8 t
              clear hk hlt
              go_wp2_with (first | (refine wpList_build rfl 85 _ rfl (.agg (encs .u32 t.l)) _ hbu (by simp [Act.eval]) ?_) | fail)
              go_loopw [216] (fun i wr => ∃ k : Nat, k ≤ 8 ∧ i = .int .i64 k ∧ Blk wr g (hashL (addK st.l t.l k) (.slice (some ⟨gk, ok, none⟩) 64 kc) rest n).toArray 101 ∧ Upd g w wr) (fun i _ => 8 - (intOf i).toNat)
              case atStart => exact ⟨0, by omega, rfl, HB.out.below hb HG.out, Upd.of_below hb⟩
              case round =>
                clear hb
                obtain ⟨k, hk, rfl, hB, hu⟩ := hrel
                by_cases hlt : k < 8
                · have i1 : (k : Int) < 8 := by omega
                  have hix := fun wx => run_index_encs (P := Try.prog) 85 72 .i64 .u32 Try.underlying85 Try.underlying72 sizeW t.l .u32 (k : Int) (by omega) (by rw [S8.l_length]; omega) rfl wx
                  rw [Int.toNat_natCast] at hix
                  have cs := hash_cell hB (by rw [addK_length]; rfl) k (by omega)
                  rw [addK_getD _ _ _ _ (Nat.le_refl _)] at cs
                  have HN : Hid (addK st.l t.l (k + 1) = (addK st.l t.l k).set k (st.l.getD k 0 + t.l.getD k 0)) := rfl
                  generalize st.l.getD k 0 = x at *
                  generalize t.l.getD k 0 = y at *
                  go_wp2_with fail
                  refine mix_start (fun w' => Below wr.heap.size wr w') (List.range 12) [11] [5] [11] (by kernel_rfl) (by kernel_rfl) (fun d _ _ _ _ h => by cases d <;> exact h) ?_ ?_
                  · exact (Below.refl _ _).drew
                  repeat (refine mix_pure rfl rfl (fun K hK => ?_); go_simp; refine hK _ ?_; clear hK K)
                  refine mix_read (.int .u32 (wb x)) rfl rfl rfl rfl (fun w' hS => ?_) ?_
                  · have hc' := below_cell hS cs
                    go_simp
                  repeat (refine mix_pure rfl rfl (fun K hK => ?_); go_simp; refine hK _ ?_; clear hK K)
                  replace hB := hB.drew
                  replace hu := hu.drew
                  clear cs
                  generalize wr.drew = w7 at *
                  have h1 := hash_cell hB (by rw [addK_length]; rfl) k (by omega)
                  have h2 := hB.frozen k
                  refine mix_ds rfl rfl rfl (fun K hK => ?_)
                  go_simp
                  refine hK _ _ ?_
                  clear hK K
                  clear h1 h2
                  repeat (refine mix_pure rfl rfl (fun K hK => ?_); go_simp; refine hK _ ?_; clear hK K)
                  refine mix_nil ?_
                  go_wp2_with fail
                  go_roundw
                  case rel =>
                    refine ⟨k + 1, by omega, by go_num, ?_, hu.setCell _ _⟩
                    rw [HN.out]
                    exact hash_set hB (by rw [addK_length]; rfl) k (by omega) (x + y)
                  case measure => simp [intOf]; omega
                · obtain rfl : k = 8 := by omega
                  go_wp2_with fail
                  go_end0
                  rw [addK_all, ← HC.out] at hB
                  exact ⟨rfl, hB, hu⟩
end Go.Proofs.Ytfamcgmgcchppaa
