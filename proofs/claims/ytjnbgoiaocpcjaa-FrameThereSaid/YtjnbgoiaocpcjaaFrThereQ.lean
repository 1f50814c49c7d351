/- Plain laws of FrameThere: what is got of bytes is put as these bytes. -/
import Derived.Test.YtjnbgoiaocpcjaaFrPutA
import Derived.Test.YtjnbgoiaocpcjaaOctRef
import Derived.Test.YtjnbgoiaocpcjaaFrKind
import Derived.Test.YtjnbgoiaocpcjaaFrGetE
namespace Go.Proofs.Ytjnbgoiaocpcjaa
open Go.RowKit
set_option linter.unusedVariables false
theorem num_cons_nat (c : BitVec 8) (y : List (BitVec 8)) (hl : y.length ≤ 7) (hb : (num y).toNat < 2 ^ (8 * y.length)) : (num (c :: y)).toNat = c.toNat + 256 * (num y).toNat := by
  show (c.setWidth 64 ||| (num y) <<< 8).toNat = _
  have h56 : (num y).toNat < 2 ^ 56 := Nat.lt_of_lt_of_le hb (Nat.pow_le_pow_right (by omega) (by omega))
  have hc := c.isLt
  rw [BitVec.toNat_or, BitVec.toNat_shiftLeft, BitVec.toNat_setWidth, Nat.shiftLeft_eq, Nat.mod_eq_of_lt (show c.toNat < 2 ^ 64 by omega), Nat.mod_eq_of_lt (show (num y).toNat * 2 ^ 8 < 2 ^ 64 by omega), Nat.or_comm, ← Nat.shiftLeft_eq, ← Nat.shiftLeft_add_eq_or_of_lt hc, Nat.shiftLeft_eq]
  omega
theorem num_bound : ∀ (l : List (BitVec 8)), l.length ≤ 8 → (num l).toNat < 2 ^ (8 * l.length)
  | [], _ => by decide
  | c :: y, h => by
    have h7 : y.length ≤ 7 := by simpa using h
    have ih := num_bound y (by omega)
    rw [num_cons_nat c y h7 ih, List.length_cons, Nat.mul_add, Nat.pow_add]
    have hc := c.isLt
    have e : 2 ^ (8 * 1) = 256 := by decide
    rw [e]
    generalize 2 ^ (8 * y.length) = P at *
    omega
theorem byte_num : ∀ (k : Nat) (l : List (BitVec 8)), k < l.length → l.length ≤ 8 → (num l).toNat / 256 ^ k % 256 = (l.getD k 0).toNat
  | k, [], h, _ => by simp at h
  | 0, c :: y, _, h => by
    have h7 : y.length ≤ 7 := by simpa using h
    rw [num_cons_nat c y h7 (num_bound y (by omega))]
    have hc := c.isLt
    simp
    omega
  | k + 1, c :: y, hk, h => by
    have h7 : y.length ≤ 7 := by simpa using h
    have hk' : k < y.length := by simpa using hk
    rw [num_cons_nat c y h7 (num_bound y (by omega)), Nat.pow_succ, Nat.mul_comm (256 ^ k) 256, ← Nat.div_div_eq_div_mul]
    have hc := c.isLt
    rw [show (c.toNat + 256 * (num y).toNat) / 256 = (num y).toNat by omega, byte_num k y hk' (by omega)]
    simp
theorem low_num (l : List (BitVec 8)) (h : l.length ≤ 8) : low (num l) l.length = l := by
  apply List.ext_getElem
  · rw [low_length]
  · intro i h1 h2
    have e := low_getD (num l) l.length i h2
    have eb := byte_num i l h2 h
    have e1 : (low (num l) l.length)[i] = (low (num l) l.length).getD i 0 := by simp [List.getD, h1]
    have e2 : l[i] = l.getD i 0 := by simp [List.getD, h2]
    rw [e1, e2, e]
    apply BitVec.eq_of_toNat_eq
    rw [BitVec.toNat_setWidth, BitVec.toNat_ushiftRight, Nat.shiftRight_eq_div_pow, Nat.pow_mul]
    exact eb
theorem low_get64 (l : List (BitVec 8)) (h : 8 ≤ l.length) : low (get64 l) 8 = l.take 8 := by
  have := low_num (l.take 8) (by rw [List.length_take]; omega)
  rw [List.length_take, Nat.min_eq_left h] at this
  exact this
theorem take1_drop (b : List (BitVec 8)) (i : Nat) (h : i < b.length) : (b.drop i).take 1 = [b.getD i 0] := by
  rw [List.drop_eq_getElem_cons h]
  show [b[i]] = [b.getD i 0]
  rw [List.getD_eq_getElem?_getD, List.getElem?_eq_getElem h]
  rfl
theorem ofInt_wb (x : BitVec 8) : BitVec.ofInt 8 (wb x) = x := by
  unfold wb
  rw [BitVec.ofInt_natCast, BitVec.ofNat_toNat, BitVec.setWidth_eq]
theorem ann_back (b : List (BitVec 8)) (h : annOk b = true) : rightA (annR b) (annN b) = true ∧ annB (annR b) (annN b) (annL b) = b ∧ (annL b).length = 32 * annN b := by
  have h' := h
  unfold annOk at h'
  rw [Bool.and_eq_true, decide_eq_true_eq] at h'
  obtain ⟨hl, ho⟩ := h'
  unfold okA at ho
  rw [Bool.and_eq_true, Bool.and_eq_true] at ho
  obtain ⟨⟨h0, hr⟩, hz⟩ := ho
  have hr' := hr
  unfold rightA at hr'
  rw [Bool.and_eq_true, Bool.and_eq_true, decide_eq_true_eq, decide_eq_true_eq, decide_eq_true_eq] at hr'
  unfold annR annN annL
  rw [if_pos h, if_pos h, if_pos h]
  refine ⟨hr, ?_, by rw [List.length_take, List.length_drop]; omega⟩
  have hM : annM b = (b.getD 9 0).toNat := by have := hr'.2; unfold annM at this ⊢; omega
  have s9 : BitVec.ofNat 8 (annM b) = b.getD 9 0 := by rw [hM, BitVec.ofNat_toNat, BitVec.setWidth_eq]
  have s0 : ([1] : List (BitVec 8)) = b.take 1 := by
    have := take1_drop b 0 (by omega)
    rw [List.drop_zero] at this
    rw [this, eq_of_beq h0]
  have sz : List.replicate (96 - 32 * annM b) (0 : BitVec 8) = b.drop (10 + 32 * annM b) := by
    symm
    rw [List.eq_replicate_iff]
    refine ⟨by rw [List.length_drop]; omega, fun x hx => ?_⟩
    have := List.all_eq_true.1 hz x hx
    exact eq_of_beq this
  unfold annB
  rw [s9, sz, low_get64 _ (by rw [List.length_drop]; omega), s0, ← take1_drop b 9 (by omega), ← List.take_add, ← List.take_add, ← List.take_add]
  exact List.take_append_drop _ _
theorem pk_back (kind : BitVec 8) (b : List (BitVec 8)) (h11 : 11 ≤ b.length) (hk : pkOk kind b = true) : packB kind (wb (b.getD 1 0)) (wb (b.getD 2 0)) (get64 (b.drop 3)) (b.drop 11) = b := by
  unfold pkOk at hk
  rw [Bool.and_eq_true] at hk
  have h0 : b.getD 0 0 = kind := eq_of_beq hk.1
  unfold packB
  rw [ofInt_wb, ofInt_wb, low_get64 _ (by rw [List.length_drop]; omega)]
  have e : [kind, b.getD 1 0, b.getD 2 0] = b.take 3 := by
    have t0 := take1_drop b 0 (by omega)
    rw [List.drop_zero, h0] at t0
    have t1 := take1_drop b 1 (by omega)
    have t2 := take1_drop b 2 (by omega)
    rw [show (3 : Nat) = 1 + 1 + 1 from rfl, List.take_add, List.take_add, t0, t1, t2]
    rfl
  rw [e, ← List.take_add]
  exact List.take_append_drop _ _
theorem low_num32 (b : List (BitVec 8)) (o : Nat) (h : o + 4 ≤ b.length) : low ((num32 b o).setWidth 64) 4 = (b.drop o).take 4 := by
  have hl : ((b.drop o).take 4).length = 4 := by rw [List.length_take, List.length_drop]; omega
  have e : (num32 b o).setWidth 64 = num ((b.drop o).take 4) := by
    rw [← num_num32]
    apply BitVec.eq_of_toNat_eq
    have hb := num_bound ((b.drop o).take 4) (by omega)
    rw [hl] at hb
    rw [BitVec.toNat_setWidth, BitVec.toNat_setWidth]
    have : (num ((b.drop o).take 4)).toNat < 4294967296 := hb
    omega
  have := low_num ((b.drop o).take 4) (by omega)
  rw [hl] at this
  rw [e, this]
theorem env_back (b : List (BitVec 8)) (h : b.length = 114) : envB (wb (b.getD 0 0)) (num32 b 1) (num32 b 5) (b.drop 9) = b := by
  unfold envB
  rw [ofInt_wb, low_num32 b 1 (by omega), low_num32 b 5 (by omega)]
  have t0 := take1_drop b 0 (by omega)
  rw [List.drop_zero] at t0
  rw [← t0, ← List.take_add, ← List.take_add]
  exact List.take_append_drop _ _
theorem OwnK.argK {w : World} {base n : Nat} {v : Value} {l : List (BitVec 8)} (h : OwnK w base v n l) (hl : l.length = 32 * n) : ArgK w v n l := by
  obtain ⟨A, cap, hv, hc, _, hC, _, ha⟩ := owns_form h
  refine ⟨A, cap, hv, hc, fun i hi => ?_, hl⟩
  obtain ⟨a, rfl, hx⟩ := hC i _ (encL_get .u8 l i hi)
  obtain ⟨h1, h2, _⟩ := ha a rfl
  obtain ⟨g, off, spot⟩ := a
  simp only at h1 h2
  subst h1 h2
  rw [add_lit] at hx
  exact ⟨g, 0, rfl, hx⟩
theorem kinds_apart (b : List (BitVec 8)) : (annOk b = true → szOnion b.length = false ∧ szReply b.length = false ∧ b.length ≠ 114) ∧ (szOnion b.length = true → annOk b = false ∧ szReply b.length = false ∧ b.length ≠ 114) ∧ (szReply b.length = true → annOk b = false ∧ szOnion b.length = false ∧ b.length ≠ 114) := by
  unfold annOk szOnion szReply onionB replyB
  refine ⟨fun h => ?_, fun h => ?_, fun h => ?_⟩
  · simp at h ⊢; omega
  · simp at h ⊢; omega
  · simp at h ⊢; omega
end Go.Proofs.Ytjnbgoiaocpcjaa
