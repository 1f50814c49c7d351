/- The reference's Hmac (printed by genrefh.py). -/
import Derived.Test.YtgcdjickkbiglaaKdfRefJ
import Derived.Test.YtgcdjickkbiglaaShaRef
import Derived.Test.YtgcdjickkbiglaaShr
namespace Go.Proofs.Ytgcdjickkbiglaa
open Go.RowKit
set_option linter.unusedVariables false
set_option linter.unusedSimpArgs false
theorem rsum_v {w : World} {v : Value} {b : List (BitVec 8)} (h : Arg w v b) (hlen : b.length ≤ 140737488500000) : Calls Try.prog 33 #[v] w fun e w' => e = .returned (.agg (encs .u8 (sha b))) ∧ Below w.heap.size w w' := by
  obtain ⟨A, cap, rfl, hc, hr⟩ := h
  exact rsum_any b A cap w hr hc hlen
theorem hmX_get (k : List (BitVec 8)) (x : BitVec 8) (i : Nat) (hi : i < 64) : (hmX k x).getD i 0 = (hmPad k).getD i 0 ^^^ x := by
  unfold hmX
  have := hmPad_length k
  simp [List.getD, hi, this]
theorem hmPad_lo (k : List (BitVec 8)) (i : Nat) (hi : i < (hmKey k).length) : (hmPad k).getD i 0 = (hmKey k).getD i 0 := by
  unfold hmPad
  simp [List.getD, List.getElem?_append_left hi]
theorem hmPad_hi (k : List (BitVec 8)) (i : Nat) (hi : (hmKey k).length ≤ i) : (hmPad k).getD i 0 = 0 := by
  unfold hmPad
  simp only [List.getD, List.getElem?_append_right hi, List.getElem?_replicate]
  split <;> rfl
/-- A block that the call made: the value that leads to it. -/
def BlkV (w : World) (B : Nat) (u : Value) (l : List (BitVec 8)) : Prop := ∃ g, u = .slice (some ⟨g, 0, none⟩) 64 64 ∧ B ≤ g ∧ Blk w g (encs .u8 l) 5
theorem BlkV.below {w w' : World} {B : Nat} {u : Value} {l : List (BitVec 8)} (h : BlkV w B u l) (hb : Below w.heap.size w w') : BlkV w' B u l := by
  obtain ⟨g, rfl, h1, h2⟩ := h
  exact ⟨g, rfl, h1, h2.below hb h2.lt⟩
def z64f : List (BitVec 8) := List.replicate 64 0
theorem mk64 (wx : World) : (Instr.makeSlice 22 (.int .i64 64) (.int .i64 64)).run Try.prog wx = .ok (.slice (some ⟨wx.heap.size, 0, none⟩) 64 64) (wx.alloc (.cells (encs .u8 z64f) 5)) := run_make_words (P := Try.prog) 22 5 .u8 8 1 Try.underlying22 bytesT.hi 64 (by omega) (by omega) wx
attribute [local go_sem] bits_xor_u8
set_option maxRecDepth 100000 in
set_option maxHeartbeats 8000000 in
theorem rhmac_any (key text : List (BitVec 8)) (kv tv : Value) (w : World) (hK : Arg w kv key) (hT : Arg w tv text) (hkl : key.length ≤ 140737488000000) (htl : text.length ≤ 140737488000000) :
    Calls Try.prog 13 #[kv, tv] w (HmacD key text w) := by
  have HK := Lib.hid hK
  have HT := Lib.hid hT
  have HTL := Lib.hid htl
  have HKL := Lib.hid hkl
  obtain ⟨KA, kc, rfl, -, -⟩ := hK
  obtain ⟨TA, tc, rfl, -, -⟩ := hT
  clear hkl htl
  have m0 : Blk (w.alloc (.cells #[Value.int .u8 0, Value.int .u8 0, Value.int .u8 0, Value.int .u8 0, Value.int .u8 0, Value.int .u8 0, Value.int .u8 0, Value.int .u8 0, Value.int .u8 0, Value.int .u8 0, Value.int .u8 0, Value.int .u8 0, Value.int .u8 0, Value.int .u8 0, Value.int .u8 0, Value.int .u8 0, Value.int .u8 0, Value.int .u8 0, Value.int .u8 0, Value.int .u8 0, Value.int .u8 0, Value.int .u8 0, Value.int .u8 0, Value.int .u8 0, Value.int .u8 0, Value.int .u8 0, Value.int .u8 0, Value.int .u8 0, Value.int .u8 0, Value.int .u8 0, Value.int .u8 0, Value.int .u8 0] 25)) w.heap.size (encs .u8 z32s) 25 := Blk.new _ _ _
  have hb : Below w.heap.size w (w.alloc (.cells #[Value.int .u8 0, Value.int .u8 0, Value.int .u8 0, Value.int .u8 0, Value.int .u8 0, Value.int .u8 0, Value.int .u8 0, Value.int .u8 0, Value.int .u8 0, Value.int .u8 0, Value.int .u8 0, Value.int .u8 0, Value.int .u8 0, Value.int .u8 0, Value.int .u8 0, Value.int .u8 0, Value.int .u8 0, Value.int .u8 0, Value.int .u8 0, Value.int .u8 0, Value.int .u8 0, Value.int .u8 0, Value.int .u8 0, Value.int .u8 0, Value.int .u8 0, Value.int .u8 0, Value.int .u8 0, Value.int .u8 0, Value.int .u8 0, Value.int .u8 0, Value.int .u8 0, Value.int .u8 0] 25)) := (Below.refl _ _).alloc (Nat.le_refl _) _
  have hmk := mk64
  by_cases hlong : 64 < key.length
  · have i1 : (64 : Int) < (key.length : Int) := by omega
    have HKK : Hid (hmKey key = sha key) := by show _ = _; unfold hmKey; rw [if_pos hlong]
    have HN : Hid ((hmKey key).length = 32) := by show _ = _; rw [HKK.out, sha_length]
    have HL := Lib.hid (sha_length key)
    go_enter Try.func13, Try.ntmps13
    go_wp2_with fail
    refine (rsum_v (HK.out.below hb) (by have := HKL.out; omega)).mono ?_
    rintro e w3 ⟨rfl, hn⟩
    replace m0 := m0.below hn m0.lt
    replace hb := hb.trans (hn.mono hb.size)
    clear hn
    have hN := Blk.new w3 (encs .u8 z32s) 25
    have hBK := hN.row (encs .u8 (sha key))
    have hn : Below w3.heap.size w3 ((w3.alloc (.cells (encs .u8 z32s) 25)).setRow w3.heap.size (encs .u8 (sha key))) := below_setRow ((Below.refl _ _).alloc (Nat.le_refl _) _) (Nat.le_refl _) _
    replace m0 := m0.below hn m0.lt
    replace hb := hb.trans (hn.mono hb.size)
    clear hn
    go_wp2_with (first | (refine wpList_store_row rfl 25 _ _ rfl _ _ rfl rfl 25 _ hN (by rw [encs_size, HL.out]; exact sizeKey0) (by rw [encs_size, encs_size, HL.out]; rfl) (encs_one _ _) ?_; change wpList _ _ _ _ _ ((w3.alloc (.cells (encs .u8 z32s) 25)).setRow w3.heap.size (encs .u8 (sha key))); generalize (w3.alloc (.cells (encs .u8 z32s) 25)).setRow w3.heap.size (encs .u8 (sha key)) = w4 at *; generalize w3.heap.size = gs at *) | fail)
    have aK : Arg w4 (.slice (some ⟨gs, 0, none⟩) 32 32) (hmKey key) := by rw [HKK.out]; exact hBK.arg HL.out (Nat.le_refl _)
    clear hBK hN
    refine mix_plan (fun _ => True) (.fork 0 1 (.step 2 (.step 1 (.step 3 (.done)))) (.step 0 (.step 2 (.step 3 (.done))))) [0, 1] [] [] (by kernel_rfl) (by kernel_rfl) (fun d _ _ _ _ h => by cases d <;> exact h) trivial ?_
    replace m0 := m0.drew
    replace hb := hb.drew
    replace aK := aK.drew
    generalize w4.drew = x0 at *
    have HAK := Lib.hid aK
    have HM := Lib.hid (And.intro m0 hb)
    have hb2 := Below.refl x0.heap.size x0
    clear aK m0 hb
    apply share2 (A := fun u0 u1 wx => Below x0.heap.size x0 wx ∧ BlkV wx x0.heap.size u0 z64f ∧ BlkV wx x0.heap.size u1 z64f ∧ u0 ≠ u1)
    · intro hS0_1
      refine mix_fork rfl rfl (fun K hK => ?_) (fun K hK => ?_)
      · go_simp
        have hn : Below x0.heap.size x0 (x0.alloc (.cells (encs .u8 z64f) 5)) := (Below.refl _ _).alloc (Nat.le_refl _) _
        have r0 : BlkV (x0.alloc (.cells (encs .u8 z64f) 5)) x0.heap.size (.slice (some ⟨x0.heap.size, 0, none⟩) 64 64) z64f := ⟨_, rfl, hb2.size, Blk.new _ _ _⟩
        generalize x0.alloc (.cells (encs .u8 z64f) 5) = x1 at *
        generalize Value.slice (some ⟨x0.heap.size, 0, none⟩) 64 64 = u0 at *
        replace hb2 := hb2.trans (hn.mono hb2.size)
        refine hK _ _ (fun _ _ => trivial) ?_
        clear hK K hn
        repeat (refine mix_pure rfl rfl (fun K hK => ?_); go_simp; refine hK _ ?_; clear hK K)
        refine mix_eff rfl rfl (fun K hK => ?_)
        go_simp
        have hn : Below x1.heap.size x1 (x1.alloc (.cells (encs .u8 z64f) 5)) := (Below.refl _ _).alloc (Nat.le_refl _) _
        have r1 : BlkV (x1.alloc (.cells (encs .u8 z64f) 5)) x0.heap.size (.slice (some ⟨x1.heap.size, 0, none⟩) 64 64) z64f := ⟨_, rfl, hb2.size, Blk.new _ _ _⟩
        have hne : (Value.slice (some ⟨x1.heap.size, 0, none⟩) 64 64) ≠ u0 := by
          obtain ⟨g, rfl, _, hB⟩ := r0
          intro h
          cases h
          exact absurd hB.lt (Nat.lt_irrefl _)
        generalize x1.alloc (.cells (encs .u8 z64f) 5) = x2 at *
        generalize Value.slice (some ⟨x1.heap.size, 0, none⟩) 64 64 = u1 at *
        replace hne := Ne.symm hne
        replace hb2 := hb2.trans (hn.mono hb2.size)
        replace r0 := r0.below hn
        refine hK _ _ (fun _ _ => trivial) ?_
        clear hK K hn
        repeat (refine mix_pure rfl rfl (fun K hK => ?_); go_simp; refine hK _ ?_; clear hK K)
        exact hS0_1 u0 u1 x2 ⟨hb2, r0, r1, hne⟩
      · go_simp
        have hn : Below x0.heap.size x0 (x0.alloc (.cells (encs .u8 z64f) 5)) := (Below.refl _ _).alloc (Nat.le_refl _) _
        have r1 : BlkV (x0.alloc (.cells (encs .u8 z64f) 5)) x0.heap.size (.slice (some ⟨x0.heap.size, 0, none⟩) 64 64) z64f := ⟨_, rfl, hb2.size, Blk.new _ _ _⟩
        generalize x0.alloc (.cells (encs .u8 z64f) 5) = x3 at *
        generalize Value.slice (some ⟨x0.heap.size, 0, none⟩) 64 64 = u1 at *
        replace hb2 := hb2.trans (hn.mono hb2.size)
        refine hK _ _ (fun _ _ => trivial) ?_
        clear hK K hn
        refine mix_eff rfl rfl (fun K hK => ?_)
        go_simp
        have hn : Below x3.heap.size x3 (x3.alloc (.cells (encs .u8 z64f) 5)) := (Below.refl _ _).alloc (Nat.le_refl _) _
        have r0 : BlkV (x3.alloc (.cells (encs .u8 z64f) 5)) x0.heap.size (.slice (some ⟨x3.heap.size, 0, none⟩) 64 64) z64f := ⟨_, rfl, hb2.size, Blk.new _ _ _⟩
        have hne : (Value.slice (some ⟨x3.heap.size, 0, none⟩) 64 64) ≠ u1 := by
          obtain ⟨g, rfl, _, hB⟩ := r1
          intro h
          cases h
          exact absurd hB.lt (Nat.lt_irrefl _)
        generalize x3.alloc (.cells (encs .u8 z64f) 5) = x4 at *
        generalize Value.slice (some ⟨x3.heap.size, 0, none⟩) 64 64 = u0 at *
        replace hb2 := hb2.trans (hn.mono hb2.size)
        replace r1 := r1.below hn
        refine hK _ _ (fun _ _ => trivial) ?_
        clear hK K hn
        repeat (refine mix_pure rfl rfl (fun K hK => ?_); go_simp; refine hK _ ?_; clear hK K)
        exact hS0_1 u0 u1 x4 ⟨hb2, r0, r1, hne⟩
    · intro u0 u1 wx hA
      obtain ⟨hb2, r0, r1, hne⟩ := hA
      refine mix_nil ?_
      obtain ⟨g0, rfl, hg0, m1⟩ := r0
      obtain ⟨g1, rfl, hg1, m2⟩ := r1
      have n01 : g0 ≠ g1 := fun h => hne (by rw [h])
      clear hne
      go_wp2_with fail
      go_loopw [9] (fun vi wr => ∃ k : Nat, k ≤ 64 ∧ vi = .int .i64 k ∧ Blk wr g0 (encs .u8 (fill (hmX key 0x36) k)) 5 ∧ Blk wr g1 (encs .u8 (fill (hmX key 0x5c) k)) 5 ∧ Below x0.heap.size x0 wr) (fun vi _ => 64 - (intOf vi).toNat)
      case atStart => exact ⟨0, by omega, rfl, by rw [fill_zero, hmX_length]; exact m1, by rw [fill_zero, hmX_length]; exact m2, hb2⟩
      case round =>
        clear m1 m2 hb2
        obtain ⟨k, hk, rfl, m1, m2, hb2⟩ := hrel
        by_cases hlt : k < 64
        · have j1 : (k : Int) < 64 := by omega
          have c1 := m1.word k (by rw [fill_length _ _ (by rw [hmX_length]; omega), hmX_length]; exact hlt)
          have c2 := m2.word k (by rw [fill_length _ _ (by rw [hmX_length]; omega), hmX_length]; exact hlt)
          have f1 := m1.frozen k
          have f2 := m2.frozen k
          have p1 := m1.put k ((hmX key 0x36).getD k 0)
          rw [fill_set _ _ (by rw [hmX_length]; exact hlt), hmX_get key _ k hlt] at p1
          have p2 := (m2.farAt (Ne.symm n01) k (.int .u8 (wb ((hmPad key).getD k 0 ^^^ 0x36)))).put k ((hmX key 0x5c).getD k 0)
          rw [fill_set _ _ (by rw [hmX_length]; exact hlt), hmX_get key _ k hlt] at p2
          replace p1 := p1.farAt n01 k (.int .u8 (wb ((hmPad key).getD k 0 ^^^ 0x5c)))
          have c2' : (wr.setCell ⟨g0, k, none⟩ (.int .u8 (wb ((hmPad key).getD k 0 ^^^ 0x36)))).cell? ⟨g1, k, none⟩ = _ := (m2.farAt (Ne.symm n01) k _).word k (by rw [fill_length _ _ (by rw [hmX_length]; omega), hmX_length]; exact hlt)
          have f2' : (wr.setCell ⟨g0, k, none⟩ (.int .u8 (wb ((hmPad key).getD k 0 ^^^ 0x36)))).frozen? ⟨g1, k, none⟩ = false := (m2.farAt (Ne.symm n01) k _).frozen k
          have pb : Below x0.heap.size x0 ((wr.setCell ⟨g0, k, none⟩ (.int .u8 (wb ((hmPad key).getD k 0 ^^^ 0x36)))).setCell ⟨g1, k, none⟩ (.int .u8 (wb ((hmPad key).getD k 0 ^^^ 0x5c)))) := below_setCell (below_setCell hb2 hg0 _ _) hg1 _ _
          have HPP := Lib.hid (And.intro p1 (And.intro p2 pb))
          clear p1 p2 pb
          by_cases hkk : k < 32
          · have hik : (k : Int) < (32 : Int) := by omega
            have hlo := hmPad_lo key k (by rw [HN.out]; exact hkk)
            obtain ⟨A', c', he, hc', hR'⟩ := HAK.out.below hb2
            obtain ⟨gk, ok, he2, hcell⟩ := hR' k (by rw [HN.out]; exact hkk)
            simp only [Value.slice.injEq] at he
            obtain ⟨rfl, -, -⟩ := he
            cases he2
            try rw [Nat.zero_add] at hcell
            rw [← hlo] at hcell
            clear hlo
            generalize (hmPad key).getD k 0 = cc at *
            have hx1 : bits BinOp.xor IntKind.u8 (wb cc) 54 = wb (cc ^^^ 0x36) := bits_xor_u8 cc 0x36
            have hx2 : bits BinOp.xor IntKind.u8 (wb cc) 92 = wb (cc ^^^ 0x5c) := bits_xor_u8 cc 0x5c
            go_wp2_with fail
            exact ⟨⟨k + 1, by omega, by go_num, HPP.out.1, HPP.out.2.1, HPP.out.2.2⟩, by simp [intOf]; omega⟩
          · have hik : ¬ (k : Int) < (32 : Int) := by omega
            have hhi := hmPad_hi key k (by rw [HN.out]; omega)
            rw [hhi] at HPP c2' f2'
            go_wp2_with fail
            rw [show bits BinOp.xor IntKind.u8 0 54 = wb ((0 : BitVec 8) ^^^ 0x36) by decide, show bits BinOp.xor IntKind.u8 0 92 = wb ((0 : BitVec 8) ^^^ 0x5c) by decide]
            exact ⟨⟨k + 1, by omega, by go_num, HPP.out.1, HPP.out.2.1, HPP.out.2.2⟩, by simp [intOf]; omega⟩
        · obtain rfl : k = 64 := by omega
          have hf1 : fill (hmX key 0x36) 64 = hmX key 0x36 := by rw [← hmX_length key 0x36, fill_all]
          have hf2 : fill (hmX key 0x5c) 64 = hmX key 0x5c := by rw [← hmX_length key 0x5c, fill_all]
          rw [hf1] at m1
          rw [hf2] at m2
          clear hf1 hf2
          have hk0 := HM.out.1.lt
          have m0 := HM.out.1.below hb2 HM.out.1.lt
          have hb := HM.out.2.trans (hb2.mono HM.out.2.size)
          have aT := HT.out.below hb
          have a1 : Arg wr (.slice (some ⟨g0, 0, none⟩) 64 64) (hmX key 0x36) := m1.arg (hmX_length _ _) (Nat.le_refl _)
          have HB1 := Lib.hid (both_v a1 aT (by rw [hmX_length]; have := HTL.out; omega))
          clear a1 aT hb2 m1 hg0 hg1 n01
          go_wp2_with fail
          refine HB1.out.mono ?_
          rintro e y1 ⟨v1, rfl, h1, hn⟩
          replace h1 : OwnB y1 _ v1 (hmX key 0x36 ++ text) := h1
          replace m0 := m0.below hn m0.lt
          replace m2 := m2.below hn m2.lt
          replace hb := hb.trans (hn.mono hb.size)
          clear hn HB1
          go_wp2_with fail
          refine (rsum_v h1.arg (by rw [List.length_append, hmX_length]; have := HTL.out; omega)).mono ?_
          rintro e y2 ⟨rfl, hn⟩
          replace m0 := m0.below hn m0.lt
          replace m2 := m2.below hn m2.lt
          replace hb := hb.trans (hn.mono hb.size)
          clear hn h1
          have HSL := Lib.hid (sha_length (hmX key 0x36 ++ text))
          have HMD : Hid (hmac key text = sha (hmX key 0x5c ++ sha (hmX key 0x36 ++ text))) := rfl
          obtain ⟨S, hS⟩ : ∃ S, S = sha (hmX key 0x36 ++ text) := ⟨_, rfl⟩
          rw [← hS] at HSL HMD ⊢
          clear hS
          have hN := Blk.new y2 (encs .u8 z32s) 25
          have hBK := hN.row (encs .u8 S)
          have hn : Below y2.heap.size y2 ((y2.alloc (.cells (encs .u8 z32s) 25)).setRow y2.heap.size (encs .u8 S)) := below_setRow ((Below.refl _ _).alloc (Nat.le_refl _) _) (Nat.le_refl _) _
          replace m0 := m0.below hn m0.lt
          replace m2 := m2.below hn m2.lt
          replace hb := hb.trans (hn.mono hb.size)
          clear hn
          go_wp2_with (first | (refine wpList_store_row rfl 25 _ _ rfl _ _ rfl rfl 25 _ hN (by rw [encs_size, HSL.out]; exact sizeKey0) (by rw [encs_size, encs_size, HSL.out]; rfl) (encs_one _ _) ?_; change wpList _ _ _ _ _ ((y2.alloc (.cells (encs .u8 z32s) 25)).setRow y2.heap.size (encs .u8 S)); generalize (y2.alloc (.cells (encs .u8 z32s) 25)).setRow y2.heap.size (encs .u8 S) = y3 at *; generalize y2.heap.size = gq at *) | fail)
          refine (both_v (m2.arg (hmX_length _ _) (Nat.le_refl _)) (hBK.arg HSL.out (Nat.le_refl _)) (by rw [hmX_length, HSL.out]; omega)).mono ?_
          rintro e y4 ⟨v4, rfl, h4, hn⟩
          replace h4 : OwnB y4 _ v4 (hmX key 0x5c ++ S) := h4
          replace m0 := m0.below hn m0.lt
          replace hb := hb.trans (hn.mono hb.size)
          clear hn hBK m2 hN
          go_wp2_with fail
          refine (rsum_v h4.arg (by rw [List.length_append, hmX_length, HSL.out]; omega)).mono ?_
          rintro e y5 ⟨rfl, hn⟩
          rw [← HMD.out]
          replace m0 := m0.below hn m0.lt
          replace hb := hb.trans (hn.mono hb.size)
          clear hn h4
          have HL2 := Lib.hid (hmac_length key text)
          go_wp2_with (first | (refine wpList_store_row rfl 25 _ _ rfl _ _ rfl rfl 25 _ m0 (by rw [encs_size, HL2.out]; exact sizeKey0) (by rw [encs_size, encs_size, HL2.out]; rfl) (encs_one _ _) ?_) | fail)
          refine bodyPost_ret (v := .agg (encs .u8 (hmac key text))) (results_cell_row rfl _ _ _ _ _ _ _ rfl (m0.row _) Try.underlying25 rfl (by rw [encs_size, HL2.out]; exact sizeKey0)) rfl ⟨rfl, below_setRow hb (Nat.le_refl _) _⟩
  · have i1 : ¬ (64 : Int) < (key.length : Int) := by omega
    have HKK : Hid (hmKey key = key) := by show _ = _; unfold hmKey; rw [if_neg hlong]
    have HN : Hid ((hmKey key).length = key.length) := by show _ = _; rw [HKK.out]
    have aK : Arg (w.alloc (.cells #[Value.int .u8 0, Value.int .u8 0, Value.int .u8 0, Value.int .u8 0, Value.int .u8 0, Value.int .u8 0, Value.int .u8 0, Value.int .u8 0, Value.int .u8 0, Value.int .u8 0, Value.int .u8 0, Value.int .u8 0, Value.int .u8 0, Value.int .u8 0, Value.int .u8 0, Value.int .u8 0, Value.int .u8 0, Value.int .u8 0, Value.int .u8 0, Value.int .u8 0, Value.int .u8 0, Value.int .u8 0, Value.int .u8 0, Value.int .u8 0, Value.int .u8 0, Value.int .u8 0, Value.int .u8 0, Value.int .u8 0, Value.int .u8 0, Value.int .u8 0, Value.int .u8 0, Value.int .u8 0] 25)) (.slice KA key.length kc) (hmKey key) := by rw [HKK.out]; exact HK.out.below hb
    go_enter Try.func13, Try.ntmps13
    go_wp2_with fail
    obtain ⟨w4, hw4⟩ : ∃ w4, w4 = w.alloc (.cells #[Value.int .u8 0, Value.int .u8 0, Value.int .u8 0, Value.int .u8 0, Value.int .u8 0, Value.int .u8 0, Value.int .u8 0, Value.int .u8 0, Value.int .u8 0, Value.int .u8 0, Value.int .u8 0, Value.int .u8 0, Value.int .u8 0, Value.int .u8 0, Value.int .u8 0, Value.int .u8 0, Value.int .u8 0, Value.int .u8 0, Value.int .u8 0, Value.int .u8 0, Value.int .u8 0, Value.int .u8 0, Value.int .u8 0, Value.int .u8 0, Value.int .u8 0, Value.int .u8 0, Value.int .u8 0, Value.int .u8 0, Value.int .u8 0, Value.int .u8 0, Value.int .u8 0, Value.int .u8 0] 25) := ⟨_, rfl⟩
    rw [← hw4] at m0 hb aK ⊢
    clear hw4
    refine mix_plan (fun _ => True) (.fork 0 1 (.step 2 (.step 1 (.step 3 (.done)))) (.step 0 (.step 2 (.step 3 (.done))))) [0, 1] [] [] (by kernel_rfl) (by kernel_rfl) (fun d _ _ _ _ h => by cases d <;> exact h) trivial ?_
    replace m0 := m0.drew
    replace hb := hb.drew
    replace aK := aK.drew
    generalize w4.drew = x0 at *
    have HAK := Lib.hid aK
    have HM := Lib.hid (And.intro m0 hb)
    have hb2 := Below.refl x0.heap.size x0
    clear aK m0 hb
    apply share2 (A := fun u0 u1 wx => Below x0.heap.size x0 wx ∧ BlkV wx x0.heap.size u0 z64f ∧ BlkV wx x0.heap.size u1 z64f ∧ u0 ≠ u1)
    · intro hS0_1
      refine mix_fork rfl rfl (fun K hK => ?_) (fun K hK => ?_)
      · go_simp
        have hn : Below x0.heap.size x0 (x0.alloc (.cells (encs .u8 z64f) 5)) := (Below.refl _ _).alloc (Nat.le_refl _) _
        have r0 : BlkV (x0.alloc (.cells (encs .u8 z64f) 5)) x0.heap.size (.slice (some ⟨x0.heap.size, 0, none⟩) 64 64) z64f := ⟨_, rfl, hb2.size, Blk.new _ _ _⟩
        generalize x0.alloc (.cells (encs .u8 z64f) 5) = x1 at *
        generalize Value.slice (some ⟨x0.heap.size, 0, none⟩) 64 64 = u0 at *
        replace hb2 := hb2.trans (hn.mono hb2.size)
        refine hK _ _ (fun _ _ => trivial) ?_
        clear hK K hn
        repeat (refine mix_pure rfl rfl (fun K hK => ?_); go_simp; refine hK _ ?_; clear hK K)
        refine mix_eff rfl rfl (fun K hK => ?_)
        go_simp
        have hn : Below x1.heap.size x1 (x1.alloc (.cells (encs .u8 z64f) 5)) := (Below.refl _ _).alloc (Nat.le_refl _) _
        have r1 : BlkV (x1.alloc (.cells (encs .u8 z64f) 5)) x0.heap.size (.slice (some ⟨x1.heap.size, 0, none⟩) 64 64) z64f := ⟨_, rfl, hb2.size, Blk.new _ _ _⟩
        have hne : (Value.slice (some ⟨x1.heap.size, 0, none⟩) 64 64) ≠ u0 := by
          obtain ⟨g, rfl, _, hB⟩ := r0
          intro h
          cases h
          exact absurd hB.lt (Nat.lt_irrefl _)
        generalize x1.alloc (.cells (encs .u8 z64f) 5) = x2 at *
        generalize Value.slice (some ⟨x1.heap.size, 0, none⟩) 64 64 = u1 at *
        replace hne := Ne.symm hne
        replace hb2 := hb2.trans (hn.mono hb2.size)
        replace r0 := r0.below hn
        refine hK _ _ (fun _ _ => trivial) ?_
        clear hK K hn
        repeat (refine mix_pure rfl rfl (fun K hK => ?_); go_simp; refine hK _ ?_; clear hK K)
        exact hS0_1 u0 u1 x2 ⟨hb2, r0, r1, hne⟩
      · go_simp
        have hn : Below x0.heap.size x0 (x0.alloc (.cells (encs .u8 z64f) 5)) := (Below.refl _ _).alloc (Nat.le_refl _) _
        have r1 : BlkV (x0.alloc (.cells (encs .u8 z64f) 5)) x0.heap.size (.slice (some ⟨x0.heap.size, 0, none⟩) 64 64) z64f := ⟨_, rfl, hb2.size, Blk.new _ _ _⟩
        generalize x0.alloc (.cells (encs .u8 z64f) 5) = x3 at *
        generalize Value.slice (some ⟨x0.heap.size, 0, none⟩) 64 64 = u1 at *
        replace hb2 := hb2.trans (hn.mono hb2.size)
        refine hK _ _ (fun _ _ => trivial) ?_
        clear hK K hn
        refine mix_eff rfl rfl (fun K hK => ?_)
        go_simp
        have hn : Below x3.heap.size x3 (x3.alloc (.cells (encs .u8 z64f) 5)) := (Below.refl _ _).alloc (Nat.le_refl _) _
        have r0 : BlkV (x3.alloc (.cells (encs .u8 z64f) 5)) x0.heap.size (.slice (some ⟨x3.heap.size, 0, none⟩) 64 64) z64f := ⟨_, rfl, hb2.size, Blk.new _ _ _⟩
        have hne : (Value.slice (some ⟨x3.heap.size, 0, none⟩) 64 64) ≠ u1 := by
          obtain ⟨g, rfl, _, hB⟩ := r1
          intro h
          cases h
          exact absurd hB.lt (Nat.lt_irrefl _)
        generalize x3.alloc (.cells (encs .u8 z64f) 5) = x4 at *
        generalize Value.slice (some ⟨x3.heap.size, 0, none⟩) 64 64 = u0 at *
        replace hb2 := hb2.trans (hn.mono hb2.size)
        replace r1 := r1.below hn
        refine hK _ _ (fun _ _ => trivial) ?_
        clear hK K hn
        repeat (refine mix_pure rfl rfl (fun K hK => ?_); go_simp; refine hK _ ?_; clear hK K)
        exact hS0_1 u0 u1 x4 ⟨hb2, r0, r1, hne⟩
    · intro u0 u1 wx hA
      obtain ⟨hb2, r0, r1, hne⟩ := hA
      refine mix_nil ?_
      obtain ⟨g0, rfl, hg0, m1⟩ := r0
      obtain ⟨g1, rfl, hg1, m2⟩ := r1
      have n01 : g0 ≠ g1 := fun h => hne (by rw [h])
      clear hne
      go_wp2_with fail
      go_loopw [9] (fun vi wr => ∃ k : Nat, k ≤ 64 ∧ vi = .int .i64 k ∧ Blk wr g0 (encs .u8 (fill (hmX key 0x36) k)) 5 ∧ Blk wr g1 (encs .u8 (fill (hmX key 0x5c) k)) 5 ∧ Below x0.heap.size x0 wr) (fun vi _ => 64 - (intOf vi).toNat)
      case atStart => exact ⟨0, by omega, rfl, by rw [fill_zero, hmX_length]; exact m1, by rw [fill_zero, hmX_length]; exact m2, hb2⟩
      case round =>
        clear m1 m2 hb2
        obtain ⟨k, hk, rfl, m1, m2, hb2⟩ := hrel
        by_cases hlt : k < 64
        · have j1 : (k : Int) < 64 := by omega
          have c1 := m1.word k (by rw [fill_length _ _ (by rw [hmX_length]; omega), hmX_length]; exact hlt)
          have c2 := m2.word k (by rw [fill_length _ _ (by rw [hmX_length]; omega), hmX_length]; exact hlt)
          have f1 := m1.frozen k
          have f2 := m2.frozen k
          have p1 := m1.put k ((hmX key 0x36).getD k 0)
          rw [fill_set _ _ (by rw [hmX_length]; exact hlt), hmX_get key _ k hlt] at p1
          have p2 := (m2.farAt (Ne.symm n01) k (.int .u8 (wb ((hmPad key).getD k 0 ^^^ 0x36)))).put k ((hmX key 0x5c).getD k 0)
          rw [fill_set _ _ (by rw [hmX_length]; exact hlt), hmX_get key _ k hlt] at p2
          replace p1 := p1.farAt n01 k (.int .u8 (wb ((hmPad key).getD k 0 ^^^ 0x5c)))
          have c2' : (wr.setCell ⟨g0, k, none⟩ (.int .u8 (wb ((hmPad key).getD k 0 ^^^ 0x36)))).cell? ⟨g1, k, none⟩ = _ := (m2.farAt (Ne.symm n01) k _).word k (by rw [fill_length _ _ (by rw [hmX_length]; omega), hmX_length]; exact hlt)
          have f2' : (wr.setCell ⟨g0, k, none⟩ (.int .u8 (wb ((hmPad key).getD k 0 ^^^ 0x36)))).frozen? ⟨g1, k, none⟩ = false := (m2.farAt (Ne.symm n01) k _).frozen k
          have pb : Below x0.heap.size x0 ((wr.setCell ⟨g0, k, none⟩ (.int .u8 (wb ((hmPad key).getD k 0 ^^^ 0x36)))).setCell ⟨g1, k, none⟩ (.int .u8 (wb ((hmPad key).getD k 0 ^^^ 0x5c)))) := below_setCell (below_setCell hb2 hg0 _ _) hg1 _ _
          have HPP := Lib.hid (And.intro p1 (And.intro p2 pb))
          clear p1 p2 pb
          by_cases hkk : k < key.length
          · have hik : (k : Int) < (key.length : Int) := by omega
            have hlo := hmPad_lo key k (by rw [HN.out]; exact hkk)
            obtain ⟨A', c', he, hc', hR'⟩ := HAK.out.below hb2
            obtain ⟨gk, ok, he2, hcell⟩ := hR' k (by rw [HN.out]; exact hkk)
            simp only [Value.slice.injEq] at he
            obtain ⟨rfl, -, -⟩ := he
            cases he2
            try rw [Nat.zero_add] at hcell
            rw [← hlo] at hcell
            clear hlo
            generalize (hmPad key).getD k 0 = cc at *
            have hx1 : bits BinOp.xor IntKind.u8 (wb cc) 54 = wb (cc ^^^ 0x36) := bits_xor_u8 cc 0x36
            have hx2 : bits BinOp.xor IntKind.u8 (wb cc) 92 = wb (cc ^^^ 0x5c) := bits_xor_u8 cc 0x5c
            go_wp2_with fail
            exact ⟨⟨k + 1, by omega, by go_num, HPP.out.1, HPP.out.2.1, HPP.out.2.2⟩, by simp [intOf]; omega⟩
          · have hik : ¬ (k : Int) < (key.length : Int) := by omega
            have hhi := hmPad_hi key k (by rw [HN.out]; omega)
            rw [hhi] at HPP c2' f2'
            go_wp2_with fail
            rw [show bits BinOp.xor IntKind.u8 0 54 = wb ((0 : BitVec 8) ^^^ 0x36) by decide, show bits BinOp.xor IntKind.u8 0 92 = wb ((0 : BitVec 8) ^^^ 0x5c) by decide]
            exact ⟨⟨k + 1, by omega, by go_num, HPP.out.1, HPP.out.2.1, HPP.out.2.2⟩, by simp [intOf]; omega⟩
        · obtain rfl : k = 64 := by omega
          have hf1 : fill (hmX key 0x36) 64 = hmX key 0x36 := by rw [← hmX_length key 0x36, fill_all]
          have hf2 : fill (hmX key 0x5c) 64 = hmX key 0x5c := by rw [← hmX_length key 0x5c, fill_all]
          rw [hf1] at m1
          rw [hf2] at m2
          clear hf1 hf2
          have hk0 := HM.out.1.lt
          have m0 := HM.out.1.below hb2 HM.out.1.lt
          have hb := HM.out.2.trans (hb2.mono HM.out.2.size)
          have aT := HT.out.below hb
          have a1 : Arg wr (.slice (some ⟨g0, 0, none⟩) 64 64) (hmX key 0x36) := m1.arg (hmX_length _ _) (Nat.le_refl _)
          have HB1 := Lib.hid (both_v a1 aT (by rw [hmX_length]; have := HTL.out; omega))
          clear a1 aT hb2 m1 hg0 hg1 n01
          go_wp2_with fail
          refine HB1.out.mono ?_
          rintro e y1 ⟨v1, rfl, h1, hn⟩
          replace h1 : OwnB y1 _ v1 (hmX key 0x36 ++ text) := h1
          replace m0 := m0.below hn m0.lt
          replace m2 := m2.below hn m2.lt
          replace hb := hb.trans (hn.mono hb.size)
          clear hn HB1
          go_wp2_with fail
          refine (rsum_v h1.arg (by rw [List.length_append, hmX_length]; have := HTL.out; omega)).mono ?_
          rintro e y2 ⟨rfl, hn⟩
          replace m0 := m0.below hn m0.lt
          replace m2 := m2.below hn m2.lt
          replace hb := hb.trans (hn.mono hb.size)
          clear hn h1
          have HSL := Lib.hid (sha_length (hmX key 0x36 ++ text))
          have HMD : Hid (hmac key text = sha (hmX key 0x5c ++ sha (hmX key 0x36 ++ text))) := rfl
          obtain ⟨S, hS⟩ : ∃ S, S = sha (hmX key 0x36 ++ text) := ⟨_, rfl⟩
          rw [← hS] at HSL HMD ⊢
          clear hS
          have hN := Blk.new y2 (encs .u8 z32s) 25
          have hBK := hN.row (encs .u8 S)
          have hn : Below y2.heap.size y2 ((y2.alloc (.cells (encs .u8 z32s) 25)).setRow y2.heap.size (encs .u8 S)) := below_setRow ((Below.refl _ _).alloc (Nat.le_refl _) _) (Nat.le_refl _) _
          replace m0 := m0.below hn m0.lt
          replace m2 := m2.below hn m2.lt
          replace hb := hb.trans (hn.mono hb.size)
          clear hn
          go_wp2_with (first | (refine wpList_store_row rfl 25 _ _ rfl _ _ rfl rfl 25 _ hN (by rw [encs_size, HSL.out]; exact sizeKey0) (by rw [encs_size, encs_size, HSL.out]; rfl) (encs_one _ _) ?_; change wpList _ _ _ _ _ ((y2.alloc (.cells (encs .u8 z32s) 25)).setRow y2.heap.size (encs .u8 S)); generalize (y2.alloc (.cells (encs .u8 z32s) 25)).setRow y2.heap.size (encs .u8 S) = y3 at *; generalize y2.heap.size = gq at *) | fail)
          refine (both_v (m2.arg (hmX_length _ _) (Nat.le_refl _)) (hBK.arg HSL.out (Nat.le_refl _)) (by rw [hmX_length, HSL.out]; omega)).mono ?_
          rintro e y4 ⟨v4, rfl, h4, hn⟩
          replace h4 : OwnB y4 _ v4 (hmX key 0x5c ++ S) := h4
          replace m0 := m0.below hn m0.lt
          replace hb := hb.trans (hn.mono hb.size)
          clear hn hBK m2 hN
          go_wp2_with fail
          refine (rsum_v h4.arg (by rw [List.length_append, hmX_length, HSL.out]; omega)).mono ?_
          rintro e y5 ⟨rfl, hn⟩
          rw [← HMD.out]
          replace m0 := m0.below hn m0.lt
          replace hb := hb.trans (hn.mono hb.size)
          clear hn h4
          have HL2 := Lib.hid (hmac_length key text)
          go_wp2_with (first | (refine wpList_store_row rfl 25 _ _ rfl _ _ rfl rfl 25 _ m0 (by rw [encs_size, HL2.out]; exact sizeKey0) (by rw [encs_size, encs_size, HL2.out]; rfl) (encs_one _ _) ?_) | fail)
          refine bodyPost_ret (v := .agg (encs .u8 (hmac key text))) (results_cell_row rfl _ _ _ _ _ _ _ rfl (m0.row _) Try.underlying25 rfl (by rw [encs_size, HL2.out]; exact sizeKey0)) rfl ⟨rfl, below_setRow hb (Nat.le_refl _) _⟩
end Go.Proofs.Ytgcdjickkbiglaa
