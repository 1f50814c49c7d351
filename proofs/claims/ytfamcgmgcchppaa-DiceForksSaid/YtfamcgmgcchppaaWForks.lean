/- A fork of dice are dice of the seed that is said. -/
import Derived.Test.YtfamcgmgcchppaaDiFork2
import Derived.Test.YtfamcgmgcchppaaDiRef
import Derived.Test.YtfamcgmgcchppaaOctBoth
namespace Go.Proofs.Ytfamcgmgcchppaa
open Go.RowKit
set_option linter.unusedVariables false
set_option linter.unusedSimpArgs false
attribute [local go_sem] max_imax
set_option maxRecDepth 100000 in
set_option maxHeartbeats 4000000 in
theorem forks_walk (b : List (BitVec 8)) (x : Int) (label : List (BitVec 8)) (A : Option Addr) (cap : Nat) (w : World) (hR : Rd w .u8 A b) (hc : b.length ≤ cap) (hx0 : -9223372036854775808 ≤ x) (hx1 : x ≤ 9223372036854775807) (hll : label.length ≤ 9223372036854775807) :
    Calls Try.prog 6 #[.slice A b.length cap, .int .i64 x, .string (strB label)] w fun e w' => e = .returned (.bool true) ∧ Below w.heap.size w w' := by
  have HR := Lib.hid hR
  have HC := Lib.hid hc
  have hsl : (strB label).size = label.length := strB_size label
  clear hR hc
  by_cases i1 : (4096 : Int) < (b.length : Int)
  · go_enter Try.func6, Try.ntmps6
    go_wp2_with fail
    refine (wakes_any w).mono ?_
    rintro e w1 ⟨rfl, hb⟩
    go_wp2_with fail
    go_ret
    exact ⟨rfl, hb⟩
  by_cases i2 : (4096 : Int) < (label.length : Int)
  · have i1' : ((4096 : Int) < (b.length : Int)) = False := eq_false i1
    go_enter Try.func6, Try.ntmps6
    go_wp2_with fail
    refine (wakes_any w).mono ?_
    rintro e w1 ⟨rfl, hb⟩
    go_wp2_with fail
    go_ret
    exact ⟨rfl, hb⟩
  obtain ⟨q, hq⟩ : ∃ q : Nat, imax x 0 = (q : Int) := ⟨(imax x 0).toNat, by unfold imax; split <;> omega⟩
  have hqb : (q : Int) ≤ 9223372036854775807 := by rw [← hq]; unfold imax; split <;> omega
  obtain ⟨K, hK⟩ : ∃ K, K = q % 200 := ⟨_, rfl⟩
  have hmd : (q : Int).tmod 200 = (K : Int) := by rw [Int.tmod_eq_emod_of_nonneg (Int.natCast_nonneg _)]; omega
  have hKb : K < 200 := by rw [hK]; exact Nat.mod_lt _ (by omega)
  have HBL : Hid (b.length ≤ 4096) := by show _ ≤ _; omega
  have HLL : Hid (label.length ≤ 4096) := by show _ ≤ _; omega
  have hp0 := wakes_any w
  clear hK
  go_enter Try.func6, Try.ntmps6
  go_wp2_with fail
  refine (wakes_any w).mono ?_
  rintro e w1 ⟨rfl, hb⟩
  have ho0 : OwnB (w1.alloc (.cells #[] 5)) w.heap.size (.slice (some ⟨w1.heap.size, 0, none⟩) 0 0) [] := OwnB.empty hb.size
  have hb1 : Below w.heap.size w (w1.alloc (.cells #[] 5)) := hb.trans (((Below.refl _ _).alloc (Nat.le_refl _) _).mono hb.size)
  have ha1 := (arg_mk HR.out HC.out).below hb1
  clear hp0
  go_wp2_with (first | (at_builtin; refine wpList_appw rfl _ _ rfl w.heap.size _ _ rfl ho0 _ _ rfl ha1 (by have := HBL.out; simp; omega) hb1.size (fun v2 w2 ho2 hn2 => ?_)) | fail)
  replace ho2 : OwnB w2 w.heap.size v2 b := by simpa using ho2
  replace hb := hb1.trans hn2
  obtain ⟨A2, c2, rfl, hc2, hR2⟩ := ho2.arg
  have hblen : b.length ≤ 281474976710656 := by have := HBL.out; omega
  clear hn2 hb1 ho0 ha1 ho2
  refine (dnew_any b A2 c2 w2 hR2 hc2 hblen).mono ?_
  rintro e w3 ⟨g1, rfl, hg1, hd, hn⟩
  have hg1w := Nat.le_trans hb.size hg1
  replace hb := hb.trans (hn.mono hb.size)
  clear hn hR2 hc2 hblen hg1
  have HKEY := Lib.hid (sha_length b)
  obtain ⟨key, hkey⟩ : ∃ k, k = sha b := ⟨_, rfl⟩
  have HKY := Lib.hid hkey
  rw [← hkey] at hd HKEY
  clear hkey
  go_wp2_with fail
  refine (dbytes_any g1 key 0 K w3 hd (by omega) (by omega)).mono ?_
  rintro e w4 ⟨v4, rfl, -, hd, hu⟩
  replace hb := Upd.below hb hu hg1w hb.size
  have hl1 := hd.lt
  clear hu
  rw [Nat.zero_add] at hd
  go_wp2_with fail
  refine (dfork_any g1 key K label w4 hd (by omega) HLL.out).mono ?_
  rintro e w5 ⟨h, rfl, hh, hdh, hd, hu⟩
  replace hb := Upd.below hb hu hg1w hb.size
  have hlh := hdh.lt
  have hne : g1 ≠ h := by omega
  have hg1h : g1 < h := by omega
  have hgh : w.heap.size ≤ h := by omega
  clear hu
  go_wp2_with fail
  refine (rdnew_any b A cap w5 (HR.out.below hb) HC.out (by have := HBL.out; omega)).mono ?_
  rintro e w6 ⟨rfl, hn⟩
  rw [← HKY.out]
  replace hd := hd.below hn
  replace hdh := hdh.below hn
  have hl6 : h < w6.heap.size := Nat.lt_of_lt_of_le hlh hn.size
  replace hb := hb.trans (hn.mono hb.size)
  clear hn hlh hl1
  go_wp2_with fail
  refine (rdbytes_any key 0 K w6 HKEY.out (by omega) (by omega)).mono ?_
  rintro e w7 ⟨v7, rfl, -, hn⟩
  rw [Nat.zero_add]
  replace hd := hd.below hn
  replace hdh := hdh.below hn
  have hl7 : h < w7.heap.size := Nat.lt_of_lt_of_le hl6 hn.size
  replace hb := hb.trans (hn.mono hb.size)
  clear hn hl6
  have hn8 : Below w7.heap.size w7 (w7.alloc (.cells (diceL key K).toArray 43)) := (Below.refl _ _).alloc (Nat.le_refl _) _
  have hB : Blk (w7.alloc (.cells (diceL key K).toArray 43)) w7.heap.size (diceL key K).toArray 43 := Blk.new _ _ _
  have hB0 := hB
  replace hd := hd.below hn8
  replace hdh := hdh.below hn8
  have hl8 := Nat.lt_of_lt_of_le hl7 hn8.size
  replace hb := hb.trans (hn8.mono hb.size)
  have hwG : w.heap.size ≤ w7.heap.size := by omega
  have DLK := Lib.hid (diceL_length key K HKEY.out)
  clear hn8
  go_wp2_with (first | (refine wpList_store_last rfl 43 _ _ rfl _ _ (diceL key K).toArray 43 rfl rfl rfl (by rw [List.size_toArray, DLK.out]; exact sizeRD) (by show _ = (diceL key K).length; rw [DLK.out]; rfl) (diceL_ones _ _) ?_; generalize w7.alloc (.cells (diceL key K).toArray 43) = w8 at *) | (refine wpList_load_row rfl 43 _ rfl w7.heap.size rfl 43 (diceL key K).toArray _ _ hB Try.underlying43 rfl (by rw [List.size_toArray, DLK.out]; exact sizeRD) ?_) | fail)
  refine (rdbytes_any key K 32 w8 HKEY.out (by omega) (by omega)).mono ?_
  rintro e w9 ⟨v9, rfl, ho9, hn⟩
  replace hd := hd.below hn
  replace hdh := hdh.below hn
  replace hB := hB.below hn hB.lt
  have hl9 := Nat.lt_of_lt_of_le hl8 hn.size
  replace hb := hb.trans (hn.mono hb.size)
  have hG8 : w7.heap.size < w8.heap.size := hB0.lt
  have hG9 := hB.lt
  have DLK2 := Lib.hid (diceL_length key (K + 32) HKEY.out)
  have hu10 := (Upd.refl w7.heap.size w9).setRow (diceL key (K + 32)).toArray
  have ho10 := ho9.upd hu10 hG8
  replace hd := hd.upd hu10 (by omega)
  replace hdh := hdh.upd hu10 (by omega)
  replace hb := Upd.below hb hu10 (by omega) hb.size
  have hl10 := Nat.lt_of_lt_of_le hl9 hu10.size
  have hB2 := hB.row (diceL key (K + 32)).toArray
  clear hn hu10 ho9 hB0
  obtain ⟨A9, c9, rfl, hc9, hR9⟩ := ho10.arg
  have hSL := Lib.hid (strm_length key K 32)
  rw [hSL.out] at hc9 ⊢
  have HT1 := Lib.hid (fun w10 : World => conv_str w10 label)
  go_wp2_with (first | (refine wpList_store_row rfl 43 _ _ rfl _ _ rfl rfl 43 _ hB (by rw [List.size_toArray, DLK2.out]; exact sizeRD) (by rw [List.size_toArray, List.size_toArray, DLK2.out, DLK.out]) (diceL_ones _ _) ?_; generalize w9.setRow w7.heap.size (diceL key (K + 32)).toArray = w10 at *; obtain ⟨cc, w11, hcs, hcc, hR11, hn⟩ := HT1.out w10; clear HT1) | fail)
  replace hd := hd.below hn
  replace hdh := hdh.below hn
  replace hB2 := hB2.below hn hB2.lt
  have hl11 := Nat.lt_of_lt_of_le hl10 hn.size
  replace hb := hb.trans (hn.mono hb.size)
  replace hR9 := hR9.below hn
  have hG11 := hB2.lt
  clear hn hB ho10 hl10 hl9 hl8 hG8 hG9 hcs
  refine (both_any (strm key K 32) label A9 _ c9 cc w11 hR9 hR11 (by rw [hSL.out]; have := HLL.out; omega)).mono ?_
  rintro e w12 ⟨v12, rfl, ho12, hn⟩
  replace ho12 : OwnB w12 w11.heap.size v12 (strm key K 32 ++ label) := ho12
  replace hd := hd.below hn
  replace hdh := hdh.below hn
  replace hB2 := hB2.below hn hB2.lt
  have hl12 := Nat.lt_of_lt_of_le hl11 hn.size
  replace hb := hb.trans (hn.mono hb.size)
  obtain ⟨A12, c12, rfl, hc12, hR12⟩ := ho12.arg
  have hLL : (strm key K 32 ++ label).length ≤ 140737488500000 := by rw [List.length_append, hSL.out]; have := HLL.out; omega
  clear hn hl11 hR11 hR9 hcc ho12
  have HN := Lib.hid (rdnew_any (strm key K 32 ++ label) A12 c12 w12 hR12 hc12 hLL)
  obtain ⟨len, hlen⟩ : ∃ n, n = (strm key K 32 ++ label).length := ⟨_, rfl⟩
  have HK2 := Lib.hid (sha_length (strm key K 32 ++ label))
  obtain ⟨key2, hkey2⟩ : ∃ k, k = sha (strm key K 32 ++ label) := ⟨_, rfl⟩
  rw [← hkey2] at HN HK2 hdh
  rw [← hlen] at HN hc12 ⊢
  clear hlen hLL hR12 hkey2
  go_wp2_with fail
  refine HN.out.mono ?_
  rintro e w13 ⟨rfl, hn⟩
  replace hd := hd.below hn
  replace hdh := hdh.below hn
  replace hB2 := hB2.below hn hB2.lt
  have hl13 := Nat.lt_of_lt_of_le hl12 hn.size
  replace hb := hb.trans (hn.mono hb.size)
  clear hn hl12 HN
  go_wp2_with fail
  refine (rdbytes_any key2 0 70 w13 HK2.out (by omega) (by omega)).mono ?_
  rintro e w14 ⟨v14, rfl, ho14, hn⟩
  rw [Nat.zero_add]
  replace hd := hd.below hn
  replace hdh := hdh.below hn
  replace hB2 := hB2.below hn hB2.lt
  have hl14 := Nat.lt_of_lt_of_le hl13 hn.size
  replace hb := hb.trans (hn.mono hb.size)
  have DL70 := Lib.hid (diceL_length key2 70 HK2.out)
  have hn15 : Below w14.heap.size w14 (w14.alloc (.cells (diceL key2 70).toArray 43)) := (Below.refl _ _).alloc (Nat.le_refl _) _
  replace hd := hd.below hn15
  replace hdh := hdh.below hn15
  replace hB2 := hB2.below hn15 hB2.lt
  replace ho14 := ho14.below hn15
  have hl15 := Nat.lt_of_lt_of_le hl14 hn15.size
  replace hb := hb.trans (hn15.mono hb.size)
  clear hn hn15 hl14
  obtain ⟨A14, c14, rfl, hc14, -⟩ := id ho14.arg
  have hSL70 := Lib.hid (strm_length key2 0 70)
  rw [hSL70.out] at hc14 ho14 ⊢
  go_wp2_with (first | (refine wpList_store_last rfl 43 _ _ rfl _ _ (diceL key2 70).toArray 43 rfl rfl rfl (by rw [List.size_toArray, DL70.out]; exact sizeRD) (by show _ = (diceL key2 70).length; rw [DL70.out]; rfl) (diceL_ones _ _) ?_; generalize w14.alloc (.cells (diceL key2 70).toArray 43) = w15 at *) | fail)
  refine (dbytes_any h key2 0 70 w15 hdh (by omega) (by omega)).mono ?_
  rintro e w16 ⟨v16, rfl, ho16, hdh, hu⟩
  replace hd := hd.upd hu (by omega)
  replace hB2 := hB2.upd hu (by omega)
  replace ho14 := ho14.upd hu hl13
  replace hb := Upd.below hb hu hgh hb.size
  obtain ⟨A16, c16, rfl, hc16, hR16⟩ := ho16.arg
  obtain ⟨B14, d14, he14, hd14, hR14⟩ := ho14.arg
  have hcell := (show RDice w16 w7.heap.size key (K + 32) from ⟨HKEY.out, hB2⟩).cell
  have hres : Hid ((strm key2 0 70 == strm key2 0 70) = true) := by show _ = _; simp
  rw [hSL70.out] at hc16 hd14 ⊢
  rw [hSL70.out] at he14
  cases he14
  have HR16 := Lib.hid hR16
  have HR14 := Lib.hid hR14
  have HD := Lib.hid hd
  have HB := Lib.hid hb
  clear hR16 hR14 ho14 ho16 hB2 hu hdh hd hb
  go_wp2_with fail
  have hcK := Lib.hid hcell
  refine mix_start (fun w' => Below w16.heap.size w16 w') [0, 1, 2, 3, 4, 5, 6, 7, 8, 9, 10, 11, 12, 14, 15, 13, 16, 17, 18] [9, 13] [15] [] (by kernel_rfl) (by kernel_rfl) (fun d _ _ _ _ h => by cases d <;> exact h) (Below.refl _ _).drew ?_
  have hS : Below w16.heap.size w16 w16.drew := (Below.refl _ _).drew
  generalize w16.drew = x0 at *
  repeat (refine mix_pure rfl rfl (fun K hK => ?_); go_simp; refine hK _ ?_; clear hK K)
  refine mix_eff rfl rfl (fun F hF => ?_)
  go_simp
  have hsm := same_any (strm key2 0 70) (strm key2 0 70) A16 A14 c16 c14 x0 (HR16.out.below hS) (HR14.out.below hS) (by rw [hSL70.out]; omega)
  rw [hSL70.out, hres.out] at hsm
  refine hsm.mono ?_
  rintro e x1 ⟨rfl, n, rfl⟩
  replace hS : Below w16.heap.size w16 (x0.drewN n) := below_drewN hS n
  generalize x0.drewN n = x1 at *
  refine hF _ _ (fun _ _ => hS) ?_
  clear hF F hsm
  repeat (refine mix_pure rfl rfl (fun K hK => ?_); go_simp; refine hK _ ?_; clear hK K)
  refine mix_read (.int .i64 ((K + 32 : Nat) : Int)) rfl rfl rfl rfl (fun w' hS => ?_) ?_
  · have hc' := below_cell hS hcK.out
    go_simp
  refine mix_eff rfl rfl (fun F hF => ?_)
  go_simp
  refine (dtaken_any g1 key (K + 32) x1 (HD.out.below hS)).mono ?_
  rintro e x2 ⟨rfl, rfl⟩
  refine hF _ _ (fun _ _ => hS) ?_
  clear hF F
  repeat (refine mix_pure rfl rfl (fun K hK => ?_); go_simp; refine hK _ ?_; clear hK K)
  refine mix_nil ?_
  clear HR16 HR14 hcK hcell
  go_wp2_with fail
  go_ret
  exact ⟨rfl, HB.out.trans (hS.mono HB.out.size)⟩
end Go.Proofs.Ytfamcgmgcchppaa
