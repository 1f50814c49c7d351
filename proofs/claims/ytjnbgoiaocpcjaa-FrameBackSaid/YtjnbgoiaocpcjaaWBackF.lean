/- What was put is got. -/
import Derived.Test.YtjnbgoiaocpcjaaWEnvelopes
import Derived.Test.YtjnbgoiaocpcjaaWMessages
import Derived.Test.YtjnbgoiaocpcjaaOctLow
namespace Go.Proofs.Ytjnbgoiaocpcjaa
open Go.RowKit
set_option linter.unusedVariables false
theorem num32_low (A B : List (BitVec 8)) (x : BitVec 32) (o : Nat) (h : A.length = o) : num32 (A ++ low (x.setWidth 64) 4 ++ B) o = x := by
  unfold num32
  rw [← h, List.append_assoc, List.drop_left, List.take_left' (by rw [low_length]), get64_low4]
  simp
theorem hb_take (k : List (BitVec 8)) (p n : BitVec 32) (r : List (BitVec 8)) (hk : k.length = 32) : (hdrB k p n ++ r).take 32 = k := by
  unfold hdrB
  rw [List.append_assoc, List.append_assoc]
  exact List.take_left' hk
theorem hb_prev (k : List (BitVec 8)) (p n : BitVec 32) (r : List (BitVec 8)) (hk : k.length = 32) : num32 (hdrB k p n ++ r) 32 = p := by
  unfold hdrB
  rw [List.append_assoc]
  exact num32_low k _ p 32 hk
theorem hb_num (k : List (BitVec 8)) (p n : BitVec 32) (r : List (BitVec 8)) (hk : k.length = 32) : num32 (hdrB k p n ++ r) 36 = n := by
  unfold hdrB
  exact num32_low (k ++ low (p.setWidth 64) 4) r n 36 (by rw [List.length_append, low_length, hk])
variable {w : World} {v : Value}
theorem header_back {k : List (BitVec 8)} {p n : BitVec 32} (h : Arg w v (hdrB k p n)) (hk : k.length = 32) : Calls Try.prog 23 #[v] w fun e w' => e = .returned (.tuple #[.agg (hdrL k p n).toArray, .int .i64 0]) ∧ Below w.heap.size w w' := by
  have hl := hdrB_length k p n hk
  refine (getHeader_v h (by rw [hl]; omega)).mono fun e w' ⟨he, hb⟩ => ⟨?_, hb⟩
  have e1 := hb_take k p n [] hk
  have e2 := hb_prev k p n [] hk
  have e3 := hb_num k p n [] hk
  rw [List.append_nil] at e1 e2 e3
  rw [he, if_pos hl, e1, e2, e3]
theorem message_back {k body : List (BitVec 8)} {p n : BitVec 32} (h : Arg w v (hdrB k p n ++ body)) (hk : k.length = 32) (hb : body.length = 65) : Calls Try.prog 24 #[v] w fun e w' => e = .returned (.tuple #[.agg (msgL k p n body).toArray, .int .i64 0]) ∧ Below w.heap.size w w' := by
  have hl : (hdrB k p n ++ body).length = 105 := by rw [List.length_append, hdrB_length k p n hk, hb]
  refine (getMessage_v h (by rw [hl]; omega)).mono fun e w' ⟨he, hb⟩ => ⟨?_, hb⟩
  rw [he, if_pos hl, hb_take k p n body hk, hb_prev k p n body hk, hb_num k p n body hk, List.drop_left' (hdrB_length k p n hk)]
theorem exchange_back {drop body : List (BitVec 8)} (h : Arg w v (drop ++ body)) (hk : drop.length = 16) (hb : body.length = 130) : Calls Try.prog 25 #[v] w fun e w' => e = .returned (.tuple #[.agg (excL drop body).toArray, .int .i64 0]) ∧ Below w.heap.size w w' := by
  have hl : (drop ++ body).length = 146 := by rw [List.length_append, hk, hb]
  refine (getExchange_v h (by rw [hl]; omega)).mono fun e w' ⟨he, hb⟩ => ⟨?_, hb⟩
  rw [he, if_pos hl, List.take_left' hk, List.drop_left' hk]
theorem envB_length (kd : Int) (a s : BitVec 32) (body : List (BitVec 8)) (hb : body.length = 105) : (envB kd a s body).length = 114 := by simp [envB, low_length, hb]
theorem env_back {kd : Int} {a s : BitVec 32} {body : List (BitVec 8)} (h : Arg w v (envB kd a s body)) (hb : body.length = 105) (hm : mayE kd s body = true) : Calls Try.prog 38 #[v] w fun e w' => e = .returned (.tuple #[.agg (envL kd a s body).toArray, .int .i64 0]) ∧ Below w.heap.size w w' := by
  have hl := envB_length kd a s body hb
  refine (getEnvelope_v h (by rw [hl]; omega)).mono fun e w' ⟨he, hbw⟩ => ⟨?_, hbw⟩
  have hkd : kd = 0 ∨ kd = 1 := by
    unfold mayE at hm
    simp at hm
    rcases hm with h | ⟨h, _⟩
    · exact .inr h
    · exact .inl h
  have e0 : wb ((envB kd a s body).getD 0 0) = kd := by rcases hkd with rfl | rfl <;> rfl
  have e1 : num32 (envB kd a s body) 1 = a := by
    unfold envB
    rw [List.append_assoc, List.append_assoc, ← List.append_assoc]
    exact num32_low [BitVec.ofInt 8 kd] _ a 1 rfl
  have e2 : num32 (envB kd a s body) 5 = s := num32_low ([BitVec.ofInt 8 kd] ++ low (a.setWidth 64) 4) body s 5 (by simp [low_length])
  have e3 : (envB kd a s body).drop 9 = body := by unfold envB; exact List.drop_left' (by simp [low_length])
  rw [he, if_pos hl, e0, e1, e2, e3, if_pos hm]
set_option maxRecDepth 100000 in
set_option maxHeartbeats 4000000 in
theorem back_walk (k body : List (BitVec 8)) (p n : BitVec 32) (drop xb : List (BitVec 8)) (kd : Int) (a s : BitVec 32) (eb : List (BitVec 8)) (w : World) (hk : k.length = 32) (hbd : body.length = 65) (hd : drop.length = 16) (hxb : xb.length = 130) (heb : eb.length = 105) :
    Calls Try.prog 8 #[.agg (msgL k p n body).toArray, .agg (excL drop xb).toArray, .agg (envL kd a s eb).toArray] w fun e w' => e = .returned (.bool true) ∧ Below w.heap.size w w' := by
  have HM := Lib.hid (msgL_length k body p n hk hbd)
  have HX := Lib.hid (excL_length drop xb hd hxb)
  have HE := Lib.hid (envL_length kd a s eb heb)
  have HHL := Lib.hid (hdrL_length k p n hk)
  have HK := Lib.hid hk
  have HBD := Lib.hid hbd
  have HD := Lib.hid hd
  have HXB := Lib.hid hxb
  have HEB := Lib.hid heb
  have hEh := eq_hdr 9997 k p n hk
  have hEm := eq_msg 9996 k body p n hk hbd
  have hEx := eq_exc 9996 drop xb hd hxb
  have hEe := eq_env 9997 kd a s eb heb
  have HOh := Lib.hid (hdrL_one k p n)
  have HOm := Lib.hid (msgL_one k body p n)
  have HOx := Lib.hid (excL_one drop xb)
  have HOe := Lib.hid (envL_one kd a s eb)
  have HPH := Lib.hid (fun w' => putHeader_own k p n hk w')
  have HPM := Lib.hid (fun w' => putMessage_any k body p n hk hbd w')
  have HPX := Lib.hid (fun w' => putExchange_any drop xb hd hxb w')
  have HPE := Lib.hid (fun w' => putEnvelope_any kd a s eb heb w')
  have HGH := Lib.hid (fun (w : World) (v : Value) (h : Arg w v (hdrB k p n)) => header_back h hk)
  have HGM := Lib.hid (fun (w : World) (v : Value) (h : Arg w v (hdrB k p n ++ body)) => message_back h hk hbd)
  have HGX := Lib.hid (fun (w : World) (v : Value) (h : Arg w v (drop ++ xb)) => exchange_back h hd hxb)
  have HGE := Lib.hid (fun (hm : mayE kd s eb = true) (w : World) (v : Value) (h : Arg w v (envB kd a s eb)) => env_back h heb hm)
  have HBL := Lib.hid (envB_length kd a s eb heb)
  have HSEG : Hid (∀ j v, (hdrL k p n)[j]? = some v → (msgL k p n body).toArray[0 + j]? = some v) := fun j v h => by rw [Nat.zero_add, List.getElem?_toArray, msgL, List.getElem?_append_left (List.getElem?_eq_some_iff.1 h).1]; exact h
  clear hk hbd hd hxb heb
  unfold EnvPut at HPE
  generalize mayE kd s eb = r at *
  generalize hdrL k p n = LH at *
  generalize msgL k p n body = LM at *
  generalize excL drop xb = LX at *
  generalize envL kd a s eb = LE at *
  generalize envB kd a s eb = BE at *
  generalize hdrB k p n ++ body = BM at *
  generalize hdrB k p n = BH at *
  generalize drop ++ xb = BX at *
  go_enter Try.func8, Try.ntmps8
  go_wp2_with fail
  have hb0 : Below w.heap.size w (((w.alloc (.cells LM.toArray 32)).alloc (.cells LX.toArray 37)).alloc (.cells LE.toArray 68)) := (((Below.refl _ _).alloc (Nat.le_refl _) _).alloc (by simp) _).alloc (by simp; omega) _
  have hBm : Blk (((w.alloc (.cells LM.toArray 32)).alloc (.cells LX.toArray 37)).alloc (.cells LE.toArray 68)) w.heap.size LM.toArray 32 := ((Blk.new _ _ _).alloc _).alloc _
  have hBx : Blk (((w.alloc (.cells LM.toArray 32)).alloc (.cells LX.toArray 37)).alloc (.cells LE.toArray 68)) (w.heap.size + 1) LX.toArray 37 := (Blk.new_at _ _ _ _ (by simp)).alloc _
  have hBe : Blk (((w.alloc (.cells LM.toArray 32)).alloc (.cells LX.toArray 37)).alloc (.cells LE.toArray 68)) (w.heap.size + 1 + 1) LE.toArray 68 := Blk.new_at _ _ _ _ (by simp)
  generalize ((w.alloc (.cells LM.toArray 32)).alloc (.cells LX.toArray 37)).alloc (.cells LE.toArray 68) = W0 at *
  refine (wakes_any W0).mono ?_
  rintro e w1 ⟨rfl, hn⟩
  replace hBm := hBm.below hn hBm.lt
  replace hBx := hBx.below hn hBx.lt
  replace hBe := hBe.below hn hBe.lt
  replace hb0 := hb0.trans (hn.mono hb0.size)
  clear hn
  go_wp2_with (first | (refine wpList_load_part rfl 29 _ rfl w.heap.size 0 rfl 32 LM.toArray (0, 0) _ LH hBm HSEG.out Try.underlying29 rfl (by rw [HHL.out]; exact sizeHdr) ?_) | fail)
  refine (HPH.out _).mono ?_
  rintro e w2 ⟨v1, rfl, h1, hn⟩
  replace h1 : OwnB w2 _ v1 BH := h1
  replace hBm := hBm.below hn hBm.lt
  replace hBx := hBx.below hn hBx.lt
  replace hBe := hBe.below hn hBe.lt
  replace hb0 := hb0.trans (hn.mono hb0.size)
  clear hn
  go_wp2_with fail
  refine (HGH.out _ _ h1.arg).mono ?_
  rintro e wa ⟨rfl, hn⟩
  clear h1
  replace hBm := hBm.below hn hBm.lt
  replace hBx := hBx.below hn hBx.lt
  replace hBe := hBe.below hn hBe.lt
  replace hb0 := hb0.trans (hn.mono hb0.size)
  clear hn
  have hN := Blk.new wa (hdrL z32 0 0).toArray 29
  have hBH := hN.row LH.toArray
  have hn : Below wa.heap.size wa ((wa.alloc (.cells (hdrL z32 0 0).toArray 29)).setRow wa.heap.size LH.toArray) := below_setRow ((Below.refl _ _).alloc (Nat.le_refl _) _) (Nat.le_refl _) _
  replace hBm := hBm.below hn hBm.lt
  replace hBx := hBx.below hn hBx.lt
  replace hBe := hBe.below hn hBe.lt
  replace hb0 := hb0.trans (hn.mono hb0.size)
  clear hn
  go_wp2_with (first | (refine wpList_store_row rfl 29 _ _ rfl _ _ rfl rfl 29 _ hN (by rw [List.size_toArray, HHL.out]; exact sizeHdr) (by rw [List.size_toArray, List.size_toArray, HHL.out, (hdrL_length z32 0 0 (by simp [z32]))]) HOh.out ?_; change wpList _ _ _ _ _ ((wa.alloc (.cells (hdrL z32 0 0).toArray 29)).setRow wa.heap.size LH.toArray); generalize (wa.alloc (.cells (hdrL z32 0 0).toArray 29)).setRow wa.heap.size LH.toArray = wH at *; generalize wa.heap.size = gH at *) | (refine wpList_load_row rfl 32 _ rfl _ rfl 32 _ (0, 0) _ hBm Try.underlying32 rfl (by rw [List.size_toArray, HM.out]; exact sizeMsg) ?_) | fail)
  clear hN
  refine (HPM.out _).mono ?_
  rintro e w3 ⟨v2, rfl, h2, hn⟩
  replace h2 : OwnB w3 _ v2 BM := h2
  replace hBm := hBm.below hn hBm.lt
  replace hBx := hBx.below hn hBx.lt
  replace hBe := hBe.below hn hBe.lt
  replace hBH := hBH.below hn hBH.lt
  replace hb0 := hb0.trans (hn.mono hb0.size)
  clear hn
  go_wp2_with fail
  refine (HGM.out _ _ h2.arg).mono ?_
  rintro e wc ⟨rfl, hn⟩
  clear h2
  replace hBm := hBm.below hn hBm.lt
  replace hBx := hBx.below hn hBx.lt
  replace hBe := hBe.below hn hBe.lt
  replace hBH := hBH.below hn hBH.lt
  replace hb0 := hb0.trans (hn.mono hb0.size)
  clear hn
  have hN := Blk.new wc msg0.toArray 32
  have hBM := hN.row LM.toArray
  have hn : Below wc.heap.size wc ((wc.alloc (.cells msg0.toArray 32)).setRow wc.heap.size LM.toArray) := below_setRow ((Below.refl _ _).alloc (Nat.le_refl _) _) (Nat.le_refl _) _
  replace hBm := hBm.below hn hBm.lt
  replace hBx := hBx.below hn hBx.lt
  replace hBe := hBe.below hn hBe.lt
  replace hBH := hBH.below hn hBH.lt
  replace hb0 := hb0.trans (hn.mono hb0.size)
  clear hn
  go_wp2_with (first | (refine wpList_store_row rfl 32 _ _ rfl _ _ rfl rfl 32 _ hN (by rw [List.size_toArray, HM.out]; exact sizeMsg) (by rw [List.size_toArray, List.size_toArray, HM.out, msg0_length]) HOm.out ?_; change wpList _ _ _ _ _ ((wc.alloc (.cells msg0.toArray 32)).setRow wc.heap.size LM.toArray); generalize (wc.alloc (.cells msg0.toArray 32)).setRow wc.heap.size LM.toArray = wM at *; generalize wc.heap.size = gM at *) | (refine wpList_load_row rfl 37 _ rfl _ rfl 37 _ (0, 0) _ hBx Try.underlying37 rfl (by rw [List.size_toArray, HX.out]; exact sizeExc) ?_) | fail)
  clear hN
  refine (HPX.out _).mono ?_
  rintro e w4 ⟨v3, rfl, h3, hn⟩
  replace h3 : OwnB w4 _ v3 BX := h3
  replace hBm := hBm.below hn hBm.lt
  replace hBx := hBx.below hn hBx.lt
  replace hBe := hBe.below hn hBe.lt
  replace hBH := hBH.below hn hBH.lt
  replace hBM := hBM.below hn hBM.lt
  replace hb0 := hb0.trans (hn.mono hb0.size)
  clear hn
  go_wp2_with fail
  refine (HGX.out _ _ h3.arg).mono ?_
  rintro e we ⟨rfl, hn⟩
  clear h3
  replace hBm := hBm.below hn hBm.lt
  replace hBx := hBx.below hn hBx.lt
  replace hBe := hBe.below hn hBe.lt
  replace hBH := hBH.below hn hBH.lt
  replace hBM := hBM.below hn hBM.lt
  replace hb0 := hb0.trans (hn.mono hb0.size)
  clear hn
  have hN := Blk.new we exc0.toArray 37
  have hBX := hN.row LX.toArray
  have hn : Below we.heap.size we ((we.alloc (.cells exc0.toArray 37)).setRow we.heap.size LX.toArray) := below_setRow ((Below.refl _ _).alloc (Nat.le_refl _) _) (Nat.le_refl _) _
  replace hBm := hBm.below hn hBm.lt
  replace hBx := hBx.below hn hBx.lt
  replace hBe := hBe.below hn hBe.lt
  replace hBH := hBH.below hn hBH.lt
  replace hBM := hBM.below hn hBM.lt
  replace hb0 := hb0.trans (hn.mono hb0.size)
  clear hn
  go_wp2_with (first | (refine wpList_store_row rfl 37 _ _ rfl _ _ rfl rfl 37 _ hN (by rw [List.size_toArray, HX.out]; exact sizeExc) (by rw [List.size_toArray, List.size_toArray, HX.out, exc0_length]) HOx.out ?_; change wpList _ _ _ _ _ ((we.alloc (.cells exc0.toArray 37)).setRow we.heap.size LX.toArray); generalize (we.alloc (.cells exc0.toArray 37)).setRow we.heap.size LX.toArray = wX at *; generalize we.heap.size = gX at *) | (refine wpList_load_part_guarded rfl 29 _ rfl gH 0 rfl 29 LH.toArray (0, 0) _ LH hBH (fun j v h => by simpa using h) Try.underlying29 rfl (by rw [HHL.out]; exact sizeHdr) ?_) | (refine wpList_load_part_guarded rfl 29 _ rfl w.heap.size 0 rfl 32 LM.toArray (0, 0) _ LH hBm HSEG.out Try.underlying29 rfl (by rw [HHL.out]; exact sizeHdr) ?_) | (refine wpList_load_part_guarded rfl 32 _ rfl gM 0 rfl 32 LM.toArray (0, 0) _ LM hBM (fun j v h => by simpa using h) Try.underlying32 rfl (by rw [HM.out]; exact sizeMsg) ?_) | (refine wpList_load_part_guarded rfl 32 _ rfl w.heap.size 0 rfl 32 LM.toArray (0, 0) _ LM hBm (fun j v h => by simpa using h) Try.underlying32 rfl (by rw [HM.out]; exact sizeMsg) ?_) | (refine wpList_load_part_guarded rfl 37 _ rfl gX 0 rfl 37 LX.toArray (0, 0) _ LX hBX (fun j v h => by simpa using h) Try.underlying37 rfl (by rw [HX.out]; exact sizeExc) ?_) | (refine wpList_load_part_guarded rfl 37 _ rfl (w.heap.size + 1) 0 rfl 37 LX.toArray (0, 0) _ LX hBx (fun j v h => by simpa using h) Try.underlying37 rfl (by rw [HX.out]; exact sizeExc) ?_) | (refine wpList_load_row rfl 68 _ rfl _ rfl 68 _ (0, 0) _ hBe Try.underlying68 rfl (by rw [List.size_toArray, HE.out]; exact sizeEnv) ?_) | fail)
  clear hN hBm hBx hBH hBM hBX
  refine (HPE.out _).mono ?_
  rintro e w5 ⟨hp, hn⟩
  replace hBe := hBe.below hn hBe.lt
  replace hb0 := hb0.trans (hn.mono hb0.size)
  clear hn
  cases r
  · rw [if_neg (by simp)] at hp
    subst hp
    go_wp2_with fail
    go_ret
    exact ⟨rfl, hb0⟩
  · rw [if_pos rfl] at hp
    obtain ⟨v, rfl, hv⟩ := hp
    replace hv := hv.arg
    have hv' := hv
    obtain ⟨Av, cv, rfl, hcv, hrv⟩ := id hv
    rw [HBL.out] at hv hv' ⊢
    clear hcv hrv
    go_wp2_with fail
    refine (HGE.out (by simp) _ _ hv').mono ?_
    rintro e wz ⟨rfl, hn⟩
    replace hBe := hBe.below hn hBe.lt
    replace hb0 := hb0.trans (hn.mono hb0.size)
    clear hn
    have hN := Blk.new wz env0.toArray 68
    have hBE := hN.row LE.toArray
    have hn : Below wz.heap.size wz ((wz.alloc (.cells env0.toArray 68)).setRow wz.heap.size LE.toArray) := below_setRow ((Below.refl _ _).alloc (Nat.le_refl _) _) (Nat.le_refl _) _
    replace hBe := hBe.below hn hBe.lt
    replace hb0 := hb0.trans (hn.mono hb0.size)
    clear hn
    go_wp2_with (first | (refine wpList_store_row rfl 68 _ _ rfl _ _ rfl rfl 68 _ hN (by rw [List.size_toArray, HE.out]; exact sizeEnv) (by rw [List.size_toArray, List.size_toArray, HE.out, env0_length]) HOe.out ?_; change wpList _ _ _ _ _ ((wz.alloc (.cells env0.toArray 68)).setRow wz.heap.size LE.toArray); generalize (wz.alloc (.cells env0.toArray 68)).setRow wz.heap.size LE.toArray = wE at *; generalize wz.heap.size = gE at *) | (refine wpList_load_part_guarded rfl 68 _ rfl gE 0 rfl 68 LE.toArray (0, 0) _ LE hBE (fun j v h => by simpa using h) Try.underlying68 rfl (by rw [HE.out]; exact sizeEnv) ?_) | (refine wpList_load_part_guarded rfl 68 _ rfl (w.heap.size + 1 + 1) 0 rfl 68 LE.toArray (0, 0) _ LE hBe (fun j v h => by simpa using h) Try.underlying68 rfl (by rw [HE.out]; exact sizeEnv) ?_) | fail)
    go_ret
    exact ⟨rfl, hb0⟩
end Go.Proofs.Ytjnbgoiaocpcjaa
