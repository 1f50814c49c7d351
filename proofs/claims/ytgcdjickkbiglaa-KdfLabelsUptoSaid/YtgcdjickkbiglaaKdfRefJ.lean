/- The reference's Join, and parts copied. -/
import Derived.Test.YtgcdjickkbiglaaKdfV
import Derived.Test.YtgcdjickkbiglaaKdfInfo
import Derived.Test.YtgcdjickkbiglaaKdfTwo
namespace Go.Proofs.Ytgcdjickkbiglaa
open Go.RowKit
set_option linter.unusedVariables false
set_option linter.unusedSimpArgs false
set_option maxHeartbeats 1000000 in
theorem join_any (ls : List (List (BitVec 8))) (PA : Option Addr) (pc : Nat) (w : World) (hP : PartsR w PA ls) (hll : ls.length ≤ 1048576) (hfl : ls.flatten.length ≤ 1048576) :
    Calls Try.prog 12 #[.slice PA ls.length pc] w (RetOwn w 5 .u8 ls.flatten) := by
  obtain ⟨vs, hP, hvl, hrow⟩ := hP
  have HP := Lib.hid hP
  have HVL := Lib.hid hvl
  have HROW := Lib.hid hrow
  have HFL := Lib.hid hfl
  have HIT : Hid ((ls.take ls.length).flatten = ls.flatten) := by show _ = _; rw [List.take_length]
  clear hP hvl hrow hfl
  go_enter Try.func12, Try.ntmps12
  go_wp2_with fail
  go_loopw [3, 4] (fun vo vi wr => ∃ k : Nat, k ≤ ls.length ∧ vi = .int .i64 k ∧ OwnB wr w.heap.size vo (ls.take k).flatten ∧ Below w.heap.size w wr) (fun _ vi _ => ls.length - (intOf vi).toNat)
  case atStart => exact ⟨0, by omega, rfl, by rw [List.take_zero]; exact World.ownsRow_nil _ _ _ _, Below.refl _ _⟩
  case round =>
    obtain ⟨k, hk, rfl, hown, hb⟩ := hrel
    by_cases hlt : k < ls.length
    · have j1 : (k : Int) < (ls.length : Int) := by omega
      obtain ⟨gp, op, rfl, hcell⟩ := HP.out.below hb k (by rw [HVL.out]; exact hlt)
      have hrow := HROW.out k hlt
      have HS := Lib.hid (flat_succ ls k hlt)
      have hf := flat_le ls (k + 1)
      rw [HS.out, List.length_append] at hf
      have HF1 := Lib.hid hf
      generalize vs.getD k undef = pv at *
      generalize ls.getD k [] = p at *
      have HB2 := Lib.hid (both_v hown.arg (hrow.below hb).arg (by have := HFL.out; omega))
      obtain ⟨Ap, cp, rfl, -, -, -⟩ := hrow
      clear hf
      go_wp2_with fail
      refine HB2.out.mono ?_
      rintro e w3 ⟨v3, rfl, h3, hn⟩
      replace h3 : OwnB w3 wr.heap.size v3 ((ls.take k).flatten ++ p) := h3
      rw [← HS.out] at h3
      have hs0 := hb.size
      go_wp2_with fail
      exact ⟨⟨k + 1, by omega, by go_num, h3.base hs0, hb.trans (hn.mono hs0)⟩, by simp [intOf]; omega⟩
    · obtain rfl : k = ls.length := by omega
      rw [HIT.out] at hown
      have j1 : ¬ (ls.length : Int) < (ls.length : Int) := by omega
      go_wp2_with fail
      go_ret
      exact ⟨_, rfl, hown, hb⟩
theorem rowsT : ElemT Try.prog 28 22 (.slice none 0 0) 1 24 := ⟨Try.underlying28, by kernel_rfl, rfl, by decide, by decide⟩
theorem owns_grown {w w' : World} {base size n : Nat} {e : TypeId} {v : Value} {xs : List Value} {row : Option Nat} (h : w.ownsRow base e size v n xs) (hg : w.grownBy w' row) (hr : ∀ g, v.ownBlock = some g → row ≠ some g) : w'.ownsRow base e size v n xs := by
  refine ⟨h.1, ?_⟩
  rcases h.2 with hh | ⟨g, cap, cur, rfl, hb, hgg, hc, hm, hcs, ht⟩
  · exact .inl hh
  · exact .inr ⟨g, cap, cur, rfl, hb, (hg.block g (Array.getElem?_eq_some_iff.1 hgg).1 (fun e => hr g rfl e.symm)).trans hgg, hc, hm, hcs, ht⟩
/-- Values that own their bytes from base on, none of them in a block of v's. -/
def OwnsAll (w : World) (base : Nat) (v : Value) (xs : List Value) (ls : List (List (BitVec 8))) : Prop := ∀ i, i < xs.length → OwnB w base (xs.getD i undef) (ls.getD i []) ∧ ∀ g, (xs.getD i undef).ownBlock = some g → v.ownBlock ≠ some g
theorem getD_snoc {α : Type} (xs : List α) (x d : α) (i : Nat) (h : i < (xs ++ [x]).length) : (i < xs.length ∧ (xs ++ [x]).getD i d = xs.getD i d) ∨ (i = xs.length ∧ (xs ++ [x]).getD i d = x) := by
  by_cases hi : i < xs.length
  · exact .inl ⟨hi, by simp [List.getD, List.getElem?_append_left hi]⟩
  · have : i = xs.length := by simp at h; omega
    exact .inr ⟨this, by subst this; simp [List.getD]⟩
theorem OwnsAll.step {w w1 w' : World} {base : Nat} {v v' x : Value} {xs : List Value} {ls : List (List (BitVec 8))} (h : OwnsAll w base v xs ls) (hb : Below w.heap.size w w1) (hs : base ≤ w.heap.size) (hx : OwnB w1 w.heap.size x (ls.getD xs.length []))
    (hv : ∀ g, v.ownBlock = some g → g < w.heap.size) (hg : w1.grownBy w' v.ownBlock) (hloc : v'.ownBlock = v.ownBlock ∨ v'.ownBlock = some w1.heap.size) : OwnsAll w' base v' (xs ++ [x]) ls := by
  intro i hi
  rcases getD_snoc xs x undef i hi with ⟨hi', e⟩ | ⟨hi', e⟩
  · rw [e]
    obtain ⟨h1, h2⟩ := h i hi'
    have h1b := h1.below hb
    refine ⟨owns_grown h1b hg (fun g hg' => h2 g hg'), fun g hg' => ?_⟩
    rcases hloc with hl | hl
    · rw [hl]; exact h2 g hg'
    · rw [hl]
      intro he
      cases he
      have := (h1b.lt _ hg').2
      omega
  · rw [e, hi']
    have h3 : OwnB w' w.heap.size x (ls.getD xs.length []) := owns_grown hx hg (fun g hg' he => by
      have := (hx.lt g hg').1
      have := hv g he
      omega)
    refine ⟨h3.base hs, fun g hg' => ?_⟩
    · have h1 := hx.lt g hg'
      rcases hloc with hl | hl
      · rw [hl]
        intro he
        have := hv g he
        omega
      · rw [hl]
        intro he
        cases he
        omega
set_option maxHeartbeats 2000000 in
theorem copied_any (ls : List (List (BitVec 8))) (PA : Option Addr) (pc : Nat) (w : World) (hP : PartsR w PA ls) (hll : ls.length ≤ 1048576) (hfl : ls.flatten.length ≤ 1048576) :
    Calls Try.prog 14 #[.slice PA ls.length pc] w fun e w' => ∃ A c, e = .returned (.slice A ls.length c) ∧ PartsR w' A ls ∧ Below w.heap.size w w' := by
  obtain ⟨vs, hP, hvl, hrow⟩ := hP
  have HP := Lib.hid hP
  have HVL := Lib.hid hvl
  have HROW := Lib.hid hrow
  have HFL := Lib.hid hfl
  clear hP hvl hrow hfl
  go_enter Try.func14, Try.ntmps14
  go_wp2_with fail
  go_loopw [3, 8] (fun vo vi wr => ∃ (k : Nat) (xs : List Value), k ≤ ls.length ∧ vi = .int .i64 k ∧ xs.length = k ∧ wr.ownsRow w.heap.size 22 1 vo k xs ∧ OwnsAll wr w.heap.size vo xs ls ∧ Below w.heap.size w wr) (fun _ vi _ => ls.length - (intOf vi).toNat)
  case atStart => exact ⟨0, [], by omega, rfl, rfl, World.ownsRow_nil _ _ _ _, fun i hi => by simp at hi, Below.refl _ _⟩
  case round =>
    obtain ⟨k, xs, hk, rfl, hxl, hown, hall, hb⟩ := hrel
    by_cases hlt : k < ls.length
    · have j1 : (k : Int) < (ls.length : Int) := by omega
      obtain ⟨gp, op, rfl, hcell⟩ := HP.out.below hb k (by rw [HVL.out]; exact hlt)
      have hrow := HROW.out k hlt
      have hf := flat_le ls (k + 1)
      rw [flat_succ ls k hlt, List.length_append] at hf
      have hpl : (ls.getD k []).length ≤ 1048576 := by have := HFL.out; omega
      have HXL := Lib.hid hxl
      have HX := Lib.hid (And.intro hown hall)
      obtain ⟨p, hp⟩ : ∃ p, p = ls.getD k [] := ⟨_, rfl⟩
      rw [← hp] at hrow hpl
      have HPP := Lib.hid hp
      generalize vs.getD k undef = pv at *
      have HPA := Lib.hid (hrow.below hb)
      obtain ⟨Ap, cp, rfl, -, -, -⟩ := hrow
      obtain ⟨oA, oc, rfl, -, -, -, -, -⟩ := owns_form hown
      have ow0 : OwnB (wr.alloc (.cells #[] 5)) wr.heap.size (.slice (some ⟨wr.heap.size, 0, none⟩) 0 0) [] := OwnB.empty (Nat.le_refl _)
      have al0 : Below wr.heap.size wr (wr.alloc (.cells #[] 5)) := (Below.refl _ _).alloc (Nat.le_refl _) _
      have ha0 := HPA.out.arg.below al0
      have hs0 := hb.size
      clear hf hxl hown hall hp
      go_wp2_with (first | (at_builtin; refine wpList_app rfl _ _ rfl wr.heap.size _ [] rfl ow0 _ p rfl ha0 (by simp; omega) (by simp) ?_; intro v2 w2 h2 hn2; rw [List.nil_append] at h2; replace hn2 := al0.trans hn2; clear ow0 al0 ha0; obtain ⟨A2, c2, rfl, hc2, -⟩ := id h2.arg; have hn3 : Below wr.heap.size wr (w2.alloc (.cells #[.slice A2 p.length c2] 22)) := hn2.alloc hn2.size _; have hown3 := owns_below HX.out.1 hn3; have mc := (Blk.new w2 #[.slice A2 p.length c2] 22).cells; have hs3 : w.heap.size ≤ (w2.alloc (.cells #[.slice A2 p.length c2] 22)).heap.size := Nat.le_trans hs0 hn3.size) | (at_builtin; refine wpList_append_row rfl _ _ rowsT rfl w.heap.size _ k xs rfl hown3 (some ⟨w2.heap.size, 0, none⟩) 1 1 [.slice A2 p.length c2] rfl rfl mc (by simp [Value.oneCell']) (by omega) hs3 ?_; intro v4 w4 h4 hgr hloc) | fail)
      have hall := OwnsAll.step (x := .slice A2 p.length c2) HX.out.2 hn3 hs0 (by rw [HXL.out, ← HPP.out]; exact h2.below ((Below.refl _ _).alloc (Nat.le_refl _) _)) (fun g hg => (HX.out.1.lt g hg).2) hgr hloc
      exact ⟨⟨k + 1, xs ++ [.slice A2 p.length c2], by omega, by go_num, by simp [HXL.out], h4, hall, hb.trans ((hn3.mono hs0).trans (below_grown (Below.refl _ _) hs3 hgr (fun q hq => (HX.out.1.lt q hq).1)))⟩, by simp [intOf]; omega⟩
    · obtain rfl : k = ls.length := by omega
      have j1 : ¬ (ls.length : Int) < (ls.length : Int) := by omega
      have HH := Lib.hid (And.intro hown (And.intro hall hb))
      obtain ⟨oA, oc, rfl, -, -, hcs, -, -⟩ := owns_form hown
      have HC := Lib.hid (cells_rdv hcs)
      clear hown hall hb hcs
      have hPR : PartsR wr oA ls := ⟨xs, HC.out, hxl, fun i hi => (HH.out.2.1 i (by omega)).1.row (by
        have h1 := flat_le ls (i + 1)
        rw [flat_succ ls i hi, List.length_append] at h1
        have := HFL.out
        omega)⟩
      have HPR := Lib.hid hPR
      clear hPR
      go_wp2_with fail
      go_ret
      exact ⟨oA, ⟨oc, rfl⟩, HPR.out, HH.out.2.2⟩
end Go.Proofs.Ytgcdjickkbiglaa
