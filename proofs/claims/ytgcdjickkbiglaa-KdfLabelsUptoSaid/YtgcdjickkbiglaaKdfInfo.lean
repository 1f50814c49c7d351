/- A label and parts, told apart (kdf.info). -/
import Derived.Test.YtgcdjickkbiglaaKdfV
import Derived.Test.YtgcdjickkbiglaaStr
namespace Go.Proofs.Ytgcdjickkbiglaa
open Go.RowKit
set_option linter.unusedVariables false
set_option linter.unusedSimpArgs false
def lenL (n : Nat) : List (BitVec 8) := low (BitVec.ofNat 64 n) 4
theorem lenL_length (n : Nat) : (lenL n).length = 4 := low_length _ _
theorem lenL_32 (n : Nat) (h : n < 4294967296) : low ((BitVec.ofNat 32 n).setWidth 64) 4 = lenL n := by
  unfold lenL
  congr 1
  apply BitVec.eq_of_toNat_eq
  simp
  omega
def infoL (label : List (BitVec 8)) (ps : List (List (BitVec 8))) : List (BitVec 8) := lenL label.length ++ label ++ (ps.map fun p => lenL p.length ++ p).flatten
theorem infoL_nil (label : List (BitVec 8)) : infoL label [] = lenL label.length ++ label := by simp [infoL]
theorem infoL_succ (label : List (BitVec 8)) (ps : List (List (BitVec 8))) (k : Nat) (h : k < ps.length) : infoL label (ps.take (k + 1)) = infoL label (ps.take k) ++ lenL (ps.getD k []).length ++ ps.getD k [] := by
  unfold infoL
  rw [List.take_succ_eq_append_getElem h, List.map_append, List.flatten_append]
  simp [List.getD, h]
theorem infoL_length (label : List (BitVec 8)) (ps : List (List (BitVec 8))) : (infoL label ps).length = 4 + label.length + (4 * ps.length + ps.flatten.length) := by
  unfold infoL
  rw [List.length_append, List.length_append, lenL_length]
  congr 1
  induction ps with
  | nil => rfl
  | cons p ps ih =>
    simp only [List.map_cons, List.flatten_cons, List.length_append, List.length_cons, lenL_length] at ih ⊢
    omega
theorem infoL_le (label : List (BitVec 8)) (ps : List (List (BitVec 8))) (k : Nat) (h : k ≤ ps.length) : (infoL label (ps.take k)).length ≤ 4 + label.length + (4 * ps.length + ps.flatten.length) := by
  rw [infoL_length]
  have := flat_le ps k
  rw [List.length_take]
  omega
attribute [local go_sem] strB_size
set_option maxRecDepth 100000 in
set_option maxHeartbeats 4000000 in
theorem info_any (label : List (BitVec 8)) (ls : List (List (BitVec 8))) (vs : List Value) (PA : Option Addr) (pc : Nat) (w : World)
    (hP : RdV w PA vs) (hvl : vs.length = ls.length) (hrow : ∀ i, i < ls.length → RowArg w (vs.getD i undef) (ls.getD i [])) (hlab : label.length ≤ 1048576) (hll : ls.length ≤ 1048576) (hfl : ls.flatten.length ≤ 1048576) :
    Calls Try.prog 34 #[.string (strB label), .slice PA ls.length pc] w (RetOwn w 5 .u8 (infoL label ls)) := by
  have HP := Lib.hid hP
  have HVL := Lib.hid hvl
  have HROW := Lib.hid hrow
  have HLAB := Lib.hid hlab
  have HFL := Lib.hid hfl
  have HLE := Lib.hid (infoL_le label ls)
  have hcv : IntKind.u32.wrap (label.length : Int) = wb (BitVec.ofNat 32 label.length) := wrap_nat isU32 _
  have HC := Lib.hid (lenL_32 label.length (by omega))
  have HIN := Lib.hid (infoL_nil label)
  have HIT : Hid (infoL label (ls.take ls.length) = infoL label ls) := by show _ = _; rw [List.take_length]
  clear hP hvl hrow hfl hlab
  go_enter Try.func34, Try.ntmps34
  go_wp2_with fail
  have h0 := put32_v (Arg.nil w) (BitVec.ofNat 32 label.length) (by simp)
  rw [List.nil_append, HC.out] at h0
  refine h0.mono ?_
  rintro e w1 ⟨v1, rfl, h1, hb⟩
  clear h0
  replace h1 : OwnB w1 w.heap.size v1 (lenL label.length) := h1
  go_wp2_with (first | (at_builtin; refine wpList_app_str rfl _ _ rfl w.heap.size _ _ rfl h1 label rfl (by have := HLAB.out; rw [lenL_length]; omega) hb.size ?_; intro v2 w2 h2 _ hn2) | fail)
  rw [← HIN.out] at h2
  replace hb := hb.trans hn2
  clear h1 hn2
  go_loopw [5, 16] (fun vo vi wr => ∃ k : Nat, k ≤ ls.length ∧ vi = .int .i64 k ∧ OwnB wr w.heap.size vo (infoL label (ls.take k)) ∧ Below w.heap.size w wr) (fun _ vi _ => ls.length - (intOf vi).toNat)
  case atStart => exact ⟨0, by omega, rfl, by rw [List.take_zero]; exact h2, hb⟩
  case round =>
    clear h2 hb
    obtain ⟨k, hk, rfl, hown, hb⟩ := hrel
    by_cases hlt : k < ls.length
    · have j1 : (k : Int) < (ls.length : Int) := by omega
      obtain ⟨gp, op, rfl, hcell⟩ := HP.out.below hb k (by rw [HVL.out]; exact hlt)
      have hrow := HROW.out k hlt
      have HS := Lib.hid (infoL_succ label ls k hlt)
      have HL0 := Lib.hid (HLE.out k hk)
      have HL1 := HLE.out (k + 1) hlt
      rw [HS.out, List.length_append, List.length_append] at HL1
      replace HL1 := Lib.hid HL1
      generalize vs.getD k undef = pv at *
      generalize ls.getD k [] = p at *
      obtain ⟨Ap, cp, rfl, hpc, hpl, hRp⟩ := hrow
      have hcp : IntKind.u32.wrap (p.length : Int) = wb (BitVec.ofNat 32 p.length) := wrap_nat isU32 _
      have HPR := Lib.hid (arg_mk hRp hpc)
      have HC1 := Lib.hid (lenL_32 p.length (by have := HL1.out; have := HLAB.out; have := HFL.out; omega))
      clear hRp hpc hpl
      have hq := put32_v hown.arg (BitVec.ofNat 32 p.length) (by have := HL0.out; have := HLAB.out; have := HFL.out; omega)
      rw [HC1.out] at hq
      have HQ := Lib.hid hq
      clear hq hown
      go_wp2_with fail
      refine HQ.out.mono ?_
      rintro e w3 ⟨v3, rfl, h3, hn⟩
      replace h3 : OwnB w3 wr.heap.size v3 (infoL label (ls.take k) ++ lenL p.length) := h3
      have hb3 := hb.trans (hn.mono hb.size)
      have hs3 := hn.size
      have hs0 := hb.size
      go_wp2_with (first | (at_builtin; refine wpList_app rfl _ _ rfl wr.heap.size _ _ rfl h3 _ p rfl (HPR.out.below hb3) (by have := HL1.out; have := HLAB.out; have := HFL.out; rw [List.length_append]; omega) hs3 ?_; intro v4 w4 h4 hn4) | fail)
      rw [← HS.out] at h4
      exact ⟨⟨k + 1, by omega, by go_num, h4.base hs0, hb3.trans (hn4.mono hs0)⟩, by simp [intOf]; omega⟩
    · obtain rfl : k = ls.length := by omega
      rw [HIT.out] at hown
      have j1 : ¬ (ls.length : Int) < (ls.length : Int) := by omega
      go_wp2_with fail
      go_ret
      exact ⟨_, rfl, hown, hb⟩
end Go.Proofs.Ytgcdjickkbiglaa
