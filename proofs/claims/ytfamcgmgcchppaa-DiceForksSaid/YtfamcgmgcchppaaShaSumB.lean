/- sha.Sum. -/
import Derived.Test.YtfamcgmgcchppaaShaPad
namespace Go.Proofs.Ytfamcgmgcchppaa
open Go.RowKit
set_option linter.unusedVariables false
set_option linter.unusedSimpArgs false
theorem size8w : (Try.prog.info? 85).map (·.size) = some 8 := by kernel_rfl
theorem sizeKey0 : (Try.prog.info? 41).map (·.size) = some 32 := by kernel_rfl
theorem shr24_32 (x : BitVec 32) : wb x / (16777216 : Int) = wb (x >>> 24) := wb_shr x 24
theorem shr16_32 (x : BitVec 32) : wb x / (65536 : Int) = wb (x >>> 16) := wb_shr x 16
theorem shr8_32 (x : BitVec 32) : wb x / (256 : Int) = wb (x >>> 8) := wb_shr x 8
theorem conv32_8s (x : BitVec 32) : IntKind.u8.wrap (wb x) = wb (x.setWidth 8) := conv_u8 x
attribute [local go_sem] World.cell?_setCell_other shr24_32 shr16_32 shr8_32 conv32_8s
def z32s : List (BitVec 8) := List.replicate 32 0
set_option maxRecDepth 100000 in
set_option maxHeartbeats 4000000 in
theorem sum_any (g gk : Nat) (m : List (BitVec 8)) (w : World) (h : HashR w g gk m) (hm : m.length ≤ 288230376151711744) :
    Calls Try.prog 34 #[.pointer (some ⟨g, 0, none⟩)] w fun e w' => e = .returned (.agg (encs .u8 (sha m))) ∧ Below w.heap.size w w' := by
  have H := Lib.hid h
  have hpl : (shaPad m.length).length ≤ 72 := by rw [shaPad_length]; omega
  have HP := Lib.hid hpl
  have HM := Lib.hid hm
  have HW : Hid ((m ++ shaPad m.length).length % 64 = 0) := by show _ = _; rw [List.length_append]; exact shaPad_whole _
  have HS : Hid (sha m = outW (shaSt (m ++ shaPad m.length)).l) := rfl
  clear h hpl hm
  go_enter Try.func34, Try.ntmps34
  go_wp2_with fail
  have hb0 : Below w.heap.size w ((w.alloc (.cells (encs .u8 z32s) 41)).alloc (.cells (encs .u8 z32s) 41)) := ((Below.refl _ _).alloc (Nat.le_refl _) _).alloc (by simp) _
  have hB2 : Blk ((w.alloc (.cells (encs .u8 z32s) 41)).alloc (.cells (encs .u8 z32s) 41)) w.heap.size (encs .u8 z32s) 41 := (Blk.new _ _ _).alloc _
  have hB3 : Blk ((w.alloc (.cells (encs .u8 z32s) 41)).alloc (.cells (encs .u8 z32s) 41)) (w.heap.size + 1) (encs .u8 z32s) 41 := Blk.new_at _ _ _ _ (by simp)
  refine (copy_any g gk m _ (H.out.below hb0)).mono ?_
  rintro e w1 ⟨g2, rfl, hg2, hge, hn⟩
  have hge' : w.heap.size + 2 ≤ g2 := by simp at hge; omega
  replace hB2 := hB2.below hn hB2.lt
  replace hB3 := hB3.below hn hB3.lt
  replace hb0 := hb0.trans (hn.mono hb0.size)
  clear hn hge
  obtain ⟨ok, kc, rest, hBg, _, _, hr64, _⟩ := H.out.ex
  have cn := (World.cell?_of_block (hb0.block g hBg.lt)).trans (hash_n hBg rfl hr64)
  clear hBg hr64
  go_wp2_with fail
  refine (pad_any m.length (by have := HM.out; omega) w1).mono ?_
  rintro e w2 ⟨v, rfl, hv, hn⟩
  replace hB2 := hB2.below hn hB2.lt
  replace hB3 := hB3.below hn hB3.lt
  have hlt1 := hg2.lt
  replace hg2 := hg2.below hn
  replace hb0 := hb0.trans (hn.mono hb0.size)
  clear hn cn
  obtain ⟨A, cap, rfl, hcap, hR⟩ := ownsRow_rd hv
  have hfar : ∀ a, A = some a → 0 < (shaPad m.length).length → a.block ≠ g2 := fun a ha _ => by
    subst ha
    have := (hv.lt a.block (by obtain ⟨A', c', he, _, _, _, _, hA⟩ := owns_form hv; cases he; exact (hA a rfl).2.2.2.2)).1
    omega
  clear hv
  go_wp2_with fail
  refine (write_any g2 gk m (shaPad m.length) A cap w2 hg2 hR hcap hfar (by have := HP.out; omega) (by have := HP.out; have := HM.out; omega)).mono ?_
  rintro e w3 ⟨rfl, hg3, hu⟩
  replace hB2 := hB2.upd hu (by omega)
  replace hB3 := hB3.upd hu (by omega)
  have hb3 := Upd.below hb0 hu (by omega) hb0.size
  clear hu hR hfar hg2 hb0
  obtain ⟨ok, kc, rest, hBg, _, _, hr64, _⟩ := hg3.ex
  clear hg3
  have HSL := Lib.hid hr64
  clear hr64 HW HP HM H
  generalize shaSt (m ++ shaPad m.length) = s at *
  generalize ((m ++ shaPad m.length).length : Int) = N at *
  have HR : Hid (outA s.l 8 = sha m) := by show _ = _; rw [outA_all _ rfl, HS.out]
  clear HS
  have hseg : ∀ j v, (encL .u32 s.l)[j]? = some v → (hashL s.l (.slice (some ⟨gk, ok, none⟩) 64 kc) rest N).toArray[0 + j]? = some v := fun j v h => by
    rw [Nat.zero_add, List.getElem?_toArray, hashL, List.getElem?_append_left (List.getElem?_eq_some_iff.1 h).1]
    exact h
  go_wp2_with (first | (refine wpList_load_part rfl 85 _ rfl g2 0 rfl 101 _ (0, 0) _ (encL .u32 s.l) hBg hseg Try.underlying85 rfl (by rw [encL_length]; exact size8w) ?_; rw [encL_toArray]) | fail)
  clear hseg hBg
  go_loopw [23] (fun i wr => ∃ k : Nat, k ≤ 8 ∧ i = .int .i64 k ∧ Blk wr w.heap.size (encs .u8 z32s) 41 ∧ Blk wr (w.heap.size + 1) (encs .u8 (outA s.l k)) 41 ∧ Below w.heap.size w wr) (fun i _ => 8 - (intOf i).toNat)
  case atStart => exact ⟨0, by omega, rfl, hB2, hB3, hb3⟩
  case round =>
    clear hB2 hB3 hb3
    obtain ⟨k, hk, rfl, hB2, hB3, hb⟩ := hrel
    by_cases hlt : k < 8
    · have i1 : (k : Int) < 8 := by omega
      have hix := fun wx => run_index_encs (P := Try.prog) 85 72 .i64 .u32 Try.underlying85 Try.underlying72 sizeW s.l .u32 (k : Int) (by omega) (by rw [S8.l_length]; omega) rfl wx
      rw [Int.toNat_natCast] at hix
      have hlen := outA_length s.l rfl k (by omega)
      have g0 := hB3.word (4 * k) (by omega)
      have g1 := hB3.word (4 * k + 1) (by omega)
      have g3 := hB3.word (4 * k + 2) (by omega)
      have g4 := hB3.word (4 * k + 3) (by omega)
      have z0 := hB3.frozen (4 * k)
      have z1 := hB3.frozen (4 * k + 1)
      have z2 := hB3.frozen (4 * k + 2)
      have z3 := hB3.frozen (4 * k + 3)
      have j0 : 4 * (k : Int) < 32 := by omega
      have j1 : 4 * (k : Int) + 1 < 32 := by omega
      have j2 : 4 * (k : Int) + 2 < 32 := by omega
      have j3 : 4 * (k : Int) + 3 < 32 := by omega
      have q0 := (((hB3.put (4 * k) ((s.l.getD k 0 >>> 24).setWidth 8)).put (4 * k + 1) ((s.l.getD k 0 >>> 16).setWidth 8)).put (4 * k + 2) ((s.l.getD k 0 >>> 8).setWidth 8)).put (4 * k + 3) ((s.l.getD k 0).setWidth 8)
      rw [outA_succ s.l rfl k hlt] at q0
      generalize s.l.getD k 0 = x at *
      clear hlen
      go_wp2_with fail
      clear g0 g1 g3 g4 z0 z1 z2 z3 hix
      go_roundw
      case rel =>
        refine ⟨k + 1, by omega, by go_num, ?_, q0, ?_⟩
        · exact (((hB2.farAt (by omega) _ _).farAt (by omega) _ _).farAt (by omega) _ _).farAt (by omega) _ _
        · exact below_setCell (below_setCell (below_setCell (below_setCell hb (by omega) _ _) (by omega) _ _) (by omega) _ _) (by omega) _ _
      case measure => simp [intOf]; omega
    · obtain rfl : k = 8 := by omega
      rw [HR.out] at hB3
      have HL := Lib.hid (sha_length m)
      go_wp2_with (first | (refine wpList_load_row rfl 41 _ rfl _ rfl 41 _ (0, 0) _ hB3 Try.underlying41 rfl (by rw [encs_size, HL.out]; exact sizeKey0) ?_) | (refine wpList_store_row rfl 41 _ _ rfl _ _ rfl rfl 41 _ hB2 (by rw [encs_size, HL.out]; exact sizeKey0) (by rw [encs_size, encs_size, HL.out]; rfl) (encs_one _ _) ?_) | fail)
      refine bodyPost_ret (v := .agg (encs .u8 (sha m))) (results_cell_row rfl _ _ _ _ _ _ _ rfl (hB2.row _) Try.underlying41 rfl (by rw [encs_size, HL.out]; exact sizeKey0)) rfl ⟨rfl, below_setRow hb (Nat.le_refl _) _⟩
set_option maxRecDepth 100000 in
set_option maxHeartbeats 2000000 in
theorem sum_nil (w : World) : Calls Try.prog 34 #[.pointer none] w fun e w' => e = .returned (.agg (encs .u8 z32s)) ∧ Below w.heap.size w w' := by
  have hb0 : Below w.heap.size w ((w.alloc (.cells (encs .u8 z32s) 41)).alloc (.cells (encs .u8 z32s) 41)) := ((Below.refl _ _).alloc (Nat.le_refl _) _).alloc (by simp) _
  have hB2 : Blk ((w.alloc (.cells (encs .u8 z32s) 41)).alloc (.cells (encs .u8 z32s) 41)) w.heap.size (encs .u8 z32s) 41 := (Blk.new _ _ _).alloc _
  have hB3 : Blk ((w.alloc (.cells (encs .u8 z32s) 41)).alloc (.cells (encs .u8 z32s) 41)) (w.heap.size + 1) (encs .u8 z32s) 41 := Blk.new_at _ _ _ _ (by simp)
  go_enter Try.func34, Try.ntmps34
  go_wp2_with (first | (refine wpList_load_row rfl 41 _ rfl _ rfl 41 _ (0, 0) _ hB3 Try.underlying41 rfl (by rw [encs_size]; exact sizeKey0) ?_) | (refine wpList_store_row rfl 41 _ _ rfl _ _ rfl rfl 41 _ hB2 (by rw [encs_size]; exact sizeKey0) rfl (encs_one _ _) ?_) | fail)
  refine bodyPost_ret (v := .agg (encs .u8 z32s)) (results_cell_row rfl _ _ _ _ _ _ _ rfl (hB2.row _) Try.underlying41 rfl (by rw [encs_size]; exact sizeKey0)) rfl ⟨rfl, below_setRow hb0 (Nat.le_refl _) _⟩
set_option maxRecDepth 100000 in
set_option maxHeartbeats 2000000 in
theorem shasum_any (b : List (BitVec 8)) (A : Option Addr) (cap : Nat) (w : World) (hR : Rd w .u8 A b) (hc : b.length ≤ cap) (hlen : b.length ≤ 281474976710656) :
    Calls Try.prog 25 #[.slice A b.length cap] w fun e w' => e = .returned (.agg (encs .u8 (sha b))) ∧ Below w.heap.size w w' := by
  have HR := Lib.hid hR
  have HC := Lib.hid hc
  have HLE := Lib.hid hlen
  clear hR hc hlen
  go_enter Try.func25, Try.ntmps25
  go_wp2_with fail
  have hb : Below w.heap.size w (w.alloc (.cells (encs .u8 z32s) 41)) := (Below.refl _ _).alloc (Nat.le_refl _) _
  have hB : Blk (w.alloc (.cells (encs .u8 z32s) 41)) w.heap.size (encs .u8 z32s) 41 := Blk.new _ _ _
  refine (new_any _).mono ?_
  rintro e w1 ⟨g, gk, rfl, hg, hge, _, hn⟩
  have hge' : w.heap.size < g := by simp at hge; omega
  replace hB := hB.below hn hB.lt
  replace hb := hb.trans (hn.mono hb.size)
  clear hn hge
  go_wp2_with fail
  refine (write_any g gk [] b A cap w1 hg (HR.out.below hb) HC.out (fun a ha hl => by
    subst ha
    intro e
    obtain ⟨_, _, he, hcell⟩ := HR.out 0 hl
    cases he
    have := World.block_lt_of_cell? _ _ hcell
    simp at e this
    omega) HLE.out (by simp; have := HLE.out; omega)).mono ?_
  rintro e w2 ⟨rfl, hg2, hu⟩
  rw [List.nil_append] at hg2
  replace hB := hB.upd hu (by omega)
  replace hb := Upd.below hb hu (by omega) hb.size
  clear hu
  go_wp2_with fail
  refine (sum_any g gk b w2 hg2 (by have := HLE.out; omega)).mono ?_
  rintro e w3 ⟨rfl, hn⟩
  replace hB := hB.below hn hB.lt
  replace hb := hb.trans (hn.mono hb.size)
  have HL := Lib.hid (sha_length b)
  go_wp2_with (first | (refine wpList_store_row rfl 41 _ _ rfl _ _ rfl rfl 41 _ hB (by rw [encs_size, HL.out]; exact sizeKey0) (by rw [encs_size, encs_size, HL.out]; rfl) (encs_one _ _) ?_) | fail)
  refine bodyPost_ret (v := .agg (encs .u8 (sha b))) (results_cell_row rfl _ _ _ _ _ _ _ rfl (hB.row _) Try.underlying41 rfl (by rw [encs_size, HL.out]; exact sizeKey0)) rfl ⟨rfl, below_setRow hb (Nat.le_refl _) _⟩
end Go.Proofs.Ytfamcgmgcchppaa
