/- The code of a key and parts (kdf.Hmac). -/
import Derived.Test.YtgcdjickkbiglaaKdfPad
import Derived.Test.YtgcdjickkbiglaaShaSumB
import Derived.Test.YtgcdjickkbiglaaOpenRows
namespace Go.Proofs.Ytgcdjickkbiglaa
open Go.RowKit
set_option linter.unusedVariables false
set_option linter.unusedSimpArgs false
def z64s : List (BitVec 8) := List.replicate 64 0
/-- The memory where Hmac's key's block has been made: its result, the block, the variable that the closure captures. -/
theorem hm_mem (w : World) (cs0 cs1 : Array Value) (v : Value) (t0 t1 t2 : TypeId) : Blk (((w.alloc (.cells cs0 t0)).alloc (.cells cs1 t1)).alloc (.cells #[v] t2)) w.heap.size cs0 t0 ∧
    Blk (((w.alloc (.cells cs0 t0)).alloc (.cells cs1 t1)).alloc (.cells #[v] t2)) (w.heap.size + 1) cs1 t1 ∧ Blk (((w.alloc (.cells cs0 t0)).alloc (.cells cs1 t1)).alloc (.cells #[v] t2)) (w.heap.size + 1 + 1) #[v] t2 ∧
    Below w.heap.size w (((w.alloc (.cells cs0 t0)).alloc (.cells cs1 t1)).alloc (.cells #[v] t2)) := by
  refine ⟨((Blk.new _ _ _).alloc _).alloc _, (Blk.new_at _ _ _ _ (by simp)).alloc _, Blk.new_at _ _ _ _ (by simp), (((Below.refl _ _).alloc (Nat.le_refl _) _).alloc (by simp) _).alloc (by simp; omega) _⟩
theorem flat_succ (ls : List (List (BitVec 8))) (k : Nat) (h : k < ls.length) : (ls.take (k + 1)).flatten = (ls.take k).flatten ++ ls.getD k [] := by
  rw [List.take_succ_eq_append_getElem h, List.flatten_append]
  simp [List.getD, h]
theorem flat_le (ls : List (List (BitVec 8))) (k : Nat) : (ls.take k).flatten.length ≤ ls.flatten.length := by
  have h : (ls.take k).flatten ++ (ls.drop k).flatten = ls.flatten := by rw [← List.flatten_append, List.take_append_drop]
  rw [← h, List.length_append]
  omega
theorem blk_one {w : World} {g : Nat} {v : Value} {t : TypeId} (h : Blk w g #[v] t) : w.cell? ⟨g, 0, none⟩ = some v := h.cell 0
theorem hm_over (key : List (BitVec 8)) : over (encs .u8 z64s) 0 ((encL .u8 (hmKey key)).take 64) = encs .u8 (hmPad key) := by
  rw [← hmPad_over, ← over_encs, List.take_of_length_le (by rw [encL_length]; exact hmKey_length key), List.take_of_length_le (hmKey_length key)]
  rfl
set_option maxRecDepth 100000 in
set_option maxHeartbeats 8000000 in
theorem hmac_any (key : List (BitVec 8)) (KA : Option Addr) (kc : Nat) (ls : List (List (BitVec 8))) (vs : List Value) (PA : Option Addr) (pc : Nat) (w : World) (hK : Rd w .u8 KA key) (hkc : key.length ≤ kc) (hkl : key.length ≤ 281474976710656)
    (hP : RdV w PA vs) (hvl : vs.length = ls.length) (hrow : ∀ i, i < ls.length → RowArg w (vs.getD i undef) (ls.getD i [])) (hll : ls.length ≤ 140737488355328) (hfl : ls.flatten.length ≤ 1125899906842624) :
    Calls Try.prog 10 #[.slice KA key.length kc, .slice PA ls.length pc] w fun e w' => e = .returned (.agg (encs .u8 (hmac key ls.flatten))) ∧ Below w.heap.size w w' := by
  have HK := Lib.hid hK
  have HP := Lib.hid hP
  have HVL := Lib.hid hvl
  have HROW := Lib.hid hrow
  have HFL := Lib.hid hfl
  clear hK hP hvl hrow hfl
  have hmk : ∀ wx : World, (Instr.makeSlice 22 (.int .i64 64) (.int .i64 64)).run Try.prog wx = .ok (.slice (some ⟨wx.heap.size, 0, none⟩) 64 64) (wx.alloc (.cells (encs .u8 z64s) 5)) := fun wx => run_make_words (P := Try.prog) 22 5 .u8 8 1 Try.underlying22 bytesT.hi 64 (by omega) (by omega) wx
  have hmf : ∀ (fn : Fn) (first cap : Array Value) (w : World), (Instr.makeFunc fn first cap).run Try.prog w = .ok (.func fn first cap) w := fun _ _ _ _ => rfl
  by_cases hlong : 64 < key.length
  · have i1 : (64 : Int) < (key.length : Int) := by omega
    go_enter Try.func10, Try.ntmps10
    go_wp2_with fail
    obtain ⟨m0, m1, m2, hb⟩ := hm_mem w (encs .u8 z32s) (encs .u8 z64s) (.slice (some ⟨w.heap.size + 1, 0, none⟩) 64 64) 25 5 22
    refine (shasum_any key KA kc _ (HK.out.below hb) hkc hkl).mono ?_
    rintro e w3 ⟨rfl, hn⟩
    replace m0 := m0.below hn m0.lt
    replace m1 := m1.below hn m1.lt
    replace m2 := m2.below hn m2.lt
    replace hb := hb.trans (hn.mono hb.size)
    clear hn
    have hN := Blk.new w3 (encs .u8 z32s) 25
    have hBK := hN.row (encs .u8 (sha key))
    have hn : Below w3.heap.size w3 ((w3.alloc (.cells (encs .u8 z32s) 25)).setRow w3.heap.size (encs .u8 (sha key))) := below_setRow ((Below.refl _ _).alloc (Nat.le_refl _) _) (Nat.le_refl _) _
    replace m0 := m0.below hn m0.lt
    replace m1 := m1.below hn m1.lt
    replace m2 := m2.below hn m2.lt
    replace hb := hb.trans (hn.mono hb.size)
    clear hn
    have HL := Lib.hid (sha_length key)
    have HO := Lib.hid (hm_over key)
    have HZ : Hid (z64s.length = 64) := rfl
    rw [show hmKey key = sha key by unfold hmKey; rw [if_pos hlong]] at HO
    have c2 := blk_one m2
    have hRs : Rd _ .u8 _ (sha key) := hBK.rd
    go_wp2_with (first | (refine wpList_store_row rfl 25 _ _ rfl _ _ rfl rfl 25 _ hN (by rw [encs_size, HL.out]; exact sizeKey0) (by rw [encs_size, encs_size, HL.out]; rfl) (encs_one _ _) ?_; change wpList _ _ _ _ _ ((w3.alloc (.cells (encs .u8 z32s) 25)).setRow w3.heap.size (encs .u8 (sha key))); generalize (w3.alloc (.cells (encs .u8 z32s) 25)).setRow w3.heap.size (encs .u8 (sha key)) = w4 at *; generalize w3.heap.size = gs at *) | (refine wpList_copy_blk rfl _ _ 22 22 5 rfl Try.underlying22 (by kernel_rfl) (w.heap.size + 1) 0 64 _ rfl _ _ m1 (some ⟨gs, 0, none⟩) 32 32 (encL .u8 (sha key)) (by rw [encL_length, HL.out]) rfl hRs.cells (encL_one _ _) (by rw [encs_size, HZ.out]; exact Nat.le_refl _) ?_; intro w5 m5 hu; rw [HO.out] at m5) | fail)
    replace m0 := m0.upd hu (by omega)
    replace m2 := m2.upd hu (by omega)
    replace hb := Upd.below hb hu (by omega) hb.size
    have c5 := blk_one m2
    clear hu m1 c2 hN hBK hRs HO HZ HL hmk
    have hp := pad1_any 0x36 (w.heap.size + 1 + 1) (w.heap.size + 1) (hmPad key) w5 c5 m5.rd (hmPad_length key)
    rw [show wb (0x36 : BitVec 8) = 54 from rfl] at hp
    refine hp.mono ?_
    rintro e w6 ⟨g1, gk1, rfl, hg1, hge1, hgek1, hn⟩
    clear hp c5
    have hgw : w.heap.size ≤ g1 := Nat.le_trans hb.size hge1
    have n4 : w.heap.size ≠ g1 := by have := m0.lt; omega
    replace m0 := m0.below hn m0.lt
    replace m5 := m5.below hn m5.lt
    replace m2 := m2.below hn m2.lt
    replace hb := hb.trans (hn.mono hb.size)
    clear hn
    go_wp2_with fail
    have hp := pad1_any 0x5c (w.heap.size + 1 + 1) (w.heap.size + 1) (hmPad key) w6 (blk_one m2) m5.rd (hmPad_length key)
    rw [show wb (0x5c : BitVec 8) = 92 from rfl] at hp
    refine hp.mono ?_
    rintro e w7 ⟨g2, gk2, rfl, hg2, hge2, hgek2, hn⟩
    clear hp m2 m5
    have hlt1 := hg1.lt
    have hklt1 := hg1.klt
    have hgw2 : w.heap.size ≤ g2 := Nat.le_trans hb.size hge2
    have n5 : w.heap.size ≠ g2 := by have := m0.lt; omega
    replace m0 := m0.below hn m0.lt
    replace hg1 := hg1.below hn
    replace hb := hb.trans (hn.mono hb.size)
    clear hn
    go_wp2_with fail
    replace hg1 : HashR w7 g1 gk1 (hmX key 0x36) := hg1
    replace hg2 : HashR w7 g2 gk2 (hmX key 0x5c) := hg2
    have n1 : g1 ≠ g2 := by omega
    have n2 : gk1 ≠ g2 := by omega
    have n3 : gk2 ≠ g1 := by omega
    clear hge1 hgek1 hge2 hgek2 hlt1 hklt1
    go_loopw [33] (fun vi wr => ∃ k : Nat, k ≤ ls.length ∧ vi = .int .i64 k ∧ HashR wr g1 gk1 (hmX key 0x36 ++ (ls.take k).flatten) ∧ HashR wr g2 gk2 (hmX key 0x5c) ∧ Blk wr w.heap.size (encs .u8 z32s) 25 ∧ Below w.heap.size w wr) (fun vi _ => ls.length - (intOf vi).toNat)
    case atStart => exact ⟨0, by omega, rfl, by rw [List.take_zero]; simpa using hg1, hg2, m0, hb⟩
    case round =>
      clear hg1 hg2 m0 hb
      obtain ⟨k, hk, rfl, hg1, hg2, m0, hb⟩ := hrel
      by_cases hlt : k < ls.length
      · have j1 : (k : Int) < (ls.length : Int) := by omega
        obtain ⟨gp, op, rfl, hcell⟩ := HP.out.below hb k (by rw [HVL.out]; exact hlt)
        have hrow := HROW.out k hlt
        have hfs := flat_succ ls k hlt
        have hfl := flat_le ls k
        have hfl1 := flat_le ls (k + 1)
        have HFS := Lib.hid hfs
        rw [hfs, List.length_append] at hfl1
        clear hfs
        generalize vs.getD k undef = pv at *
        generalize ls.getD k [] = p at *
        obtain ⟨Ap, cp, rfl, hpc, hpl, hRp⟩ := hrow
        have hfp : ∀ a, Ap = some a → 0 < p.length → a.block < w.heap.size := fun a ha hl => by
          subst ha
          obtain ⟨_, _, he, hcc⟩ := hRp 0 hl
          cases he
          exact World.block_lt_of_cell? _ _ hcc
        have hw := mwrite_any g1 gk1 (hmX key 0x36 ++ (ls.take k).flatten) p Ap cp wr hg1 (hRp.below hb) hpc (fun a h1 h2 => by have := hfp a h1 h2; omega) (by omega) (by rw [List.length_append, hmX_length]; have := HFL.out; omega)
        have HW := Lib.hid hw
        clear hw hfp hRp hpl hpc hfl hfl1
        go_wp2_with fail
        refine HW.out.mono ?_
        rintro e w8 ⟨rfl, hg3, hu⟩
        rw [List.append_assoc, ← HFS.out] at hg3
        replace hg2 := hg2.upd hu (Ne.symm n1) n3
        replace m0 := m0.upd hu n4
        replace hb := Upd.below hb hu hgw hb.size
        go_wp2_with fail
        go_roundw
        case rel =>
          first | exact ⟨k + 1, by omega, by go_num, hg3, hg2, m0, hb⟩ | ((repeat apply Exists.intro); exact ⟨⟨k + 1, by omega, by go_num, hg3, hg2, m0, hb⟩, rfl⟩)
        case measure => simp [intOf]; omega
      · obtain rfl : k = ls.length := by omega
        rw [List.take_length] at hg1
        have j1 : ¬ (ls.length : Int) < (ls.length : Int) := by omega
        go_wp2_with fail
        refine (sum_any g1 gk1 _ wr hg1 (by rw [List.length_append, hmX_length]; have := HFL.out; omega)).mono ?_
        rintro e w8 ⟨rfl, hn⟩
        clear hg1
        replace hg2 := hg2.below hn
        replace m0 := m0.below hn m0.lt
        replace hb := hb.trans (hn.mono hb.size)
        clear hn
        have HM : Hid (hmac key ls.flatten = sha (hmX key 0x5c ++ sha (hmX key 0x36 ++ ls.flatten))) := rfl
        have HL := Lib.hid (sha_length (hmX key 0x36 ++ ls.flatten))
        generalize sha (hmX key 0x36 ++ ls.flatten) = S at *
        have hN := Blk.new w8 (encs .u8 z32s) 25
        have hBK := hN.row (encs .u8 S)
        have hn : Below w8.heap.size w8 ((w8.alloc (.cells (encs .u8 z32s) 25)).setRow w8.heap.size (encs .u8 S)) := below_setRow ((Below.refl _ _).alloc (Nat.le_refl _) _) (Nat.le_refl _) _
        have n6 : w8.heap.size ≠ g2 := by have := hg2.lt; omega
        replace hg2 := hg2.below hn
        replace m0 := m0.below hn m0.lt
        replace hb := hb.trans (hn.mono hb.size)
        clear hn
        go_wp2_with (first | (refine wpList_store_row rfl 25 _ _ rfl _ _ rfl rfl 25 _ hN (by rw [encs_size, HL.out]; exact sizeKey0) (by rw [encs_size, encs_size, HL.out]; rfl) (encs_one _ _) ?_; change wpList _ _ _ _ _ ((w8.alloc (.cells (encs .u8 z32s) 25)).setRow w8.heap.size (encs .u8 S)); generalize (w8.alloc (.cells (encs .u8 z32s) 25)).setRow w8.heap.size (encs .u8 S) = w9 at *; generalize w8.heap.size = gs2 at *) | fail)
        have hw := mwrite_any g2 gk2 (hmX key 0x5c) S (some ⟨gs2, 0, none⟩) 32 w9 hg2 hBK.rd (by rw [HL.out]; omega) (fun a h1 _ => by cases h1; exact n6) (by rw [HL.out]; omega) (by rw [hmX_length, HL.out]; omega)
        rw [HL.out] at hw
        refine hw.mono ?_
        rintro e w10 ⟨rfl, hg3, hu⟩
        clear hw hBK hN hg2
        replace m0 := m0.upd hu n5
        replace hb := Upd.below hb hu hgw2 hb.size
        clear hu
        go_wp2_with fail
        refine (sum_any g2 gk2 _ w10 hg3 (by rw [List.length_append, hmX_length, HL.out]; omega)).mono ?_
        rintro e w11 ⟨rfl, hn⟩
        rw [← HM.out]
        replace m0 := m0.below hn m0.lt
        replace hb := hb.trans (hn.mono hb.size)
        clear hn hg3
        have HL2 := Lib.hid (hmac_length key ls.flatten)
        go_wp2_with (first | (refine wpList_store_row rfl 25 _ _ rfl _ _ rfl rfl 25 _ m0 (by rw [encs_size, HL2.out]; exact sizeKey0) (by rw [encs_size, encs_size, HL2.out]; rfl) (encs_one _ _) ?_) | fail)
        refine bodyPost_ret (v := .agg (encs .u8 (hmac key ls.flatten))) (results_cell_row rfl _ _ _ _ _ _ _ rfl (m0.row _) Try.underlying25 rfl (by rw [encs_size, HL2.out]; exact sizeKey0)) rfl ⟨rfl, below_setRow hb (Nat.le_refl _) _⟩
  · have i1 : ¬ (64 : Int) < (key.length : Int) := by omega
    obtain ⟨m0, m1, m2, hb⟩ := hm_mem w (encs .u8 z32s) (encs .u8 z64s) (.slice (some ⟨w.heap.size + 1, 0, none⟩) 64 64) 25 5 22
    have HO := Lib.hid (hm_over key)
    rw [show hmKey key = key by unfold hmKey; rw [if_neg hlong]] at HO
    have HZ : Hid (z64s.length = 64) := rfl
    have c2 := blk_one m2
    have hRs := HK.out.below hb
    go_enter Try.func10, Try.ntmps10
    go_wp2_with (first | (refine wpList_copy_blk rfl _ _ 22 22 5 rfl Try.underlying22 (by kernel_rfl) (w.heap.size + 1) 0 64 _ rfl _ _ m1 KA key.length kc (encL .u8 key) (by rw [encL_length]) rfl hRs.cells (encL_one _ _) (by rw [encs_size, HZ.out]; exact Nat.le_refl _) ?_; intro w5 m5 hu; rw [HO.out] at m5) | fail)
    clear hRs
    replace m0 := m0.upd hu (by omega)
    replace m2 := m2.upd hu (by omega)
    replace hb := Upd.below hb hu (by omega) hb.size
    have c5 := blk_one m2
    clear hu m1 c2 HO HZ hmk
    have hp := pad1_any 0x36 (w.heap.size + 1 + 1) (w.heap.size + 1) (hmPad key) w5 c5 m5.rd (hmPad_length key)
    rw [show wb (0x36 : BitVec 8) = 54 from rfl] at hp
    refine hp.mono ?_
    rintro e w6 ⟨g1, gk1, rfl, hg1, hge1, hgek1, hn⟩
    clear hp c5
    have hgw : w.heap.size ≤ g1 := Nat.le_trans hb.size hge1
    have n4 : w.heap.size ≠ g1 := by have := m0.lt; omega
    replace m0 := m0.below hn m0.lt
    replace m5 := m5.below hn m5.lt
    replace m2 := m2.below hn m2.lt
    replace hb := hb.trans (hn.mono hb.size)
    clear hn
    go_wp2_with fail
    have hp := pad1_any 0x5c (w.heap.size + 1 + 1) (w.heap.size + 1) (hmPad key) w6 (blk_one m2) m5.rd (hmPad_length key)
    rw [show wb (0x5c : BitVec 8) = 92 from rfl] at hp
    refine hp.mono ?_
    rintro e w7 ⟨g2, gk2, rfl, hg2, hge2, hgek2, hn⟩
    clear hp m2 m5
    have hlt1 := hg1.lt
    have hklt1 := hg1.klt
    have hgw2 : w.heap.size ≤ g2 := Nat.le_trans hb.size hge2
    have n5 : w.heap.size ≠ g2 := by have := m0.lt; omega
    replace m0 := m0.below hn m0.lt
    replace hg1 := hg1.below hn
    replace hb := hb.trans (hn.mono hb.size)
    clear hn
    go_wp2_with fail
    replace hg1 : HashR w7 g1 gk1 (hmX key 0x36) := hg1
    replace hg2 : HashR w7 g2 gk2 (hmX key 0x5c) := hg2
    have n1 : g1 ≠ g2 := by omega
    have n2 : gk1 ≠ g2 := by omega
    have n3 : gk2 ≠ g1 := by omega
    clear hge1 hgek1 hge2 hgek2 hlt1 hklt1
    go_loopw [33] (fun vi wr => ∃ k : Nat, k ≤ ls.length ∧ vi = .int .i64 k ∧ HashR wr g1 gk1 (hmX key 0x36 ++ (ls.take k).flatten) ∧ HashR wr g2 gk2 (hmX key 0x5c) ∧ Blk wr w.heap.size (encs .u8 z32s) 25 ∧ Below w.heap.size w wr) (fun vi _ => ls.length - (intOf vi).toNat)
    case atStart => exact ⟨0, by omega, rfl, by rw [List.take_zero]; simpa using hg1, hg2, m0, hb⟩
    case round =>
      clear hg1 hg2 m0 hb
      obtain ⟨k, hk, rfl, hg1, hg2, m0, hb⟩ := hrel
      by_cases hlt : k < ls.length
      · have j1 : (k : Int) < (ls.length : Int) := by omega
        obtain ⟨gp, op, rfl, hcell⟩ := HP.out.below hb k (by rw [HVL.out]; exact hlt)
        have hrow := HROW.out k hlt
        have hfs := flat_succ ls k hlt
        have hfl := flat_le ls k
        have hfl1 := flat_le ls (k + 1)
        have HFS := Lib.hid hfs
        rw [hfs, List.length_append] at hfl1
        clear hfs
        generalize vs.getD k undef = pv at *
        generalize ls.getD k [] = p at *
        obtain ⟨Ap, cp, rfl, hpc, hpl, hRp⟩ := hrow
        have hfp : ∀ a, Ap = some a → 0 < p.length → a.block < w.heap.size := fun a ha hl => by
          subst ha
          obtain ⟨_, _, he, hcc⟩ := hRp 0 hl
          cases he
          exact World.block_lt_of_cell? _ _ hcc
        have hw := mwrite_any g1 gk1 (hmX key 0x36 ++ (ls.take k).flatten) p Ap cp wr hg1 (hRp.below hb) hpc (fun a h1 h2 => by have := hfp a h1 h2; omega) (by omega) (by rw [List.length_append, hmX_length]; have := HFL.out; omega)
        have HW := Lib.hid hw
        clear hw hfp hRp hpl hpc hfl hfl1
        go_wp2_with fail
        refine HW.out.mono ?_
        rintro e w8 ⟨rfl, hg3, hu⟩
        rw [List.append_assoc, ← HFS.out] at hg3
        replace hg2 := hg2.upd hu (Ne.symm n1) n3
        replace m0 := m0.upd hu n4
        replace hb := Upd.below hb hu hgw hb.size
        go_wp2_with fail
        go_roundw
        case rel =>
          first | exact ⟨k + 1, by omega, by go_num, hg3, hg2, m0, hb⟩ | ((repeat apply Exists.intro); exact ⟨⟨k + 1, by omega, by go_num, hg3, hg2, m0, hb⟩, rfl⟩)
        case measure => simp [intOf]; omega
      · obtain rfl : k = ls.length := by omega
        rw [List.take_length] at hg1
        have j1 : ¬ (ls.length : Int) < (ls.length : Int) := by omega
        go_wp2_with fail
        refine (sum_any g1 gk1 _ wr hg1 (by rw [List.length_append, hmX_length]; have := HFL.out; omega)).mono ?_
        rintro e w8 ⟨rfl, hn⟩
        clear hg1
        replace hg2 := hg2.below hn
        replace m0 := m0.below hn m0.lt
        replace hb := hb.trans (hn.mono hb.size)
        clear hn
        have HM : Hid (hmac key ls.flatten = sha (hmX key 0x5c ++ sha (hmX key 0x36 ++ ls.flatten))) := rfl
        have HL := Lib.hid (sha_length (hmX key 0x36 ++ ls.flatten))
        generalize sha (hmX key 0x36 ++ ls.flatten) = S at *
        have hN := Blk.new w8 (encs .u8 z32s) 25
        have hBK := hN.row (encs .u8 S)
        have hn : Below w8.heap.size w8 ((w8.alloc (.cells (encs .u8 z32s) 25)).setRow w8.heap.size (encs .u8 S)) := below_setRow ((Below.refl _ _).alloc (Nat.le_refl _) _) (Nat.le_refl _) _
        have n6 : w8.heap.size ≠ g2 := by have := hg2.lt; omega
        replace hg2 := hg2.below hn
        replace m0 := m0.below hn m0.lt
        replace hb := hb.trans (hn.mono hb.size)
        clear hn
        go_wp2_with (first | (refine wpList_store_row rfl 25 _ _ rfl _ _ rfl rfl 25 _ hN (by rw [encs_size, HL.out]; exact sizeKey0) (by rw [encs_size, encs_size, HL.out]; rfl) (encs_one _ _) ?_; change wpList _ _ _ _ _ ((w8.alloc (.cells (encs .u8 z32s) 25)).setRow w8.heap.size (encs .u8 S)); generalize (w8.alloc (.cells (encs .u8 z32s) 25)).setRow w8.heap.size (encs .u8 S) = w9 at *; generalize w8.heap.size = gs2 at *) | fail)
        have hw := mwrite_any g2 gk2 (hmX key 0x5c) S (some ⟨gs2, 0, none⟩) 32 w9 hg2 hBK.rd (by rw [HL.out]; omega) (fun a h1 _ => by cases h1; exact n6) (by rw [HL.out]; omega) (by rw [hmX_length, HL.out]; omega)
        rw [HL.out] at hw
        refine hw.mono ?_
        rintro e w10 ⟨rfl, hg3, hu⟩
        clear hw hBK hN hg2
        replace m0 := m0.upd hu n5
        replace hb := Upd.below hb hu hgw2 hb.size
        clear hu
        go_wp2_with fail
        refine (sum_any g2 gk2 _ w10 hg3 (by rw [List.length_append, hmX_length, HL.out]; omega)).mono ?_
        rintro e w11 ⟨rfl, hn⟩
        rw [← HM.out]
        replace m0 := m0.below hn m0.lt
        replace hb := hb.trans (hn.mono hb.size)
        clear hn hg3
        have HL2 := Lib.hid (hmac_length key ls.flatten)
        go_wp2_with (first | (refine wpList_store_row rfl 25 _ _ rfl _ _ rfl rfl 25 _ m0 (by rw [encs_size, HL2.out]; exact sizeKey0) (by rw [encs_size, encs_size, HL2.out]; rfl) (encs_one _ _) ?_) | fail)
        refine bodyPost_ret (v := .agg (encs .u8 (hmac key ls.flatten))) (results_cell_row rfl _ _ _ _ _ _ _ rfl (m0.row _) Try.underlying25 rfl (by rw [encs_size, HL2.out]; exact sizeKey0)) rfl ⟨rfl, below_setRow hb (Nat.le_refl _) _⟩
end Go.Proofs.Ytgcdjickkbiglaa
