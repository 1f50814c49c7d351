/- sha.words: the words of a text of hexadecimal digits. -/
import Derived.Test.YtfamcgmgcchppaaShaTurn
import Derived.Lib.OthersKept
import Derived.Laws.OwnMore
namespace Go.Proofs.Ytfamcgmgcchppaa
open Go.RowKit
def dig (c : Nat) : BitVec 32 := if 97 ≤ c then BitVec.ofNat 32 (c - 97) + 10 else BitVec.ofNat 32 (c - 48)
def hexB (c : Nat) : Bool := (48 ≤ c && c ≤ 57) || (97 ≤ c && c ≤ 102)
/-- The words when k digits of a text have been read. -/
def wordsK (s : List Nat) : Nat → List (BitVec 32)
  | 0 => []
  | k + 1 =>
    let l := if k % 8 = 0 then wordsK s k ++ [0] else wordsK s k
    l.set (k / 8) ((l.getD (k / 8) 0) <<< 4 ||| dig (s.getD k 0))
theorem wordsK_length (s : List Nat) (k : Nat) : (wordsK s k).length = (k + 7) / 8 := by
  induction k with
  | zero => rfl
  | succ k ih =>
    simp only [wordsK, List.length_set]
    split
    · rw [List.length_append, ih]; simp; omega
    · rw [ih]; omega
theorem u32T : ElemT Try.prog 98 72 (.int .u32 0) 1 4 := ⟨Try.underlying98, by kernel_rfl, rfl, by decide, by decide⟩
theorem shl4 (x : BitVec 32) : IntKind.u32.wrap (wb x * 16) = wb (x <<< 4) := shl_u32 x 4
attribute [local go_sem] shl4 bits_or_u32
theorem owns_below' {w0 w w' : World} {base size n k : Nat} {e : TypeId} {v : Value} {xs : List Value} {s : ByteArray} {p p' : Nat} (h : w.ownsRow base e size v n xs) (hi : w.heap[k]? = some (.stringIter s p)) (_ : w'.heap[k]? = some (.stringIter s p')) (_ : Below base w0 w) (hk : ∀ j, j ≠ k → w'.heap[j]? = w.heap[j]?) : w'.ownsRow base e size v n xs := by
  refine ⟨h.1, ?_⟩
  rcases h.2 with h2 | ⟨g, cap, cur, hv, hg, hlt, r⟩
  · exact .inl h2
  · refine .inr ⟨g, cap, cur, hv, hg, ?_, r⟩
    have hne : g ≠ k := fun e => by subst e; rw [hi] at hlt; cases hlt
    exact (hk g hne).trans hlt
theorem iter_grown {w w' : World} {base size n k p : Nat} {e : TypeId} {v : Value} {xs : List Value} {s : ByteArray} (h : w.ownsRow base e size v n xs) (hi : w.heap[k]? = some (.stringIter s p)) (hg : w.grownBy w' v.ownBlock) : w'.heap[k]? = some (.stringIter s p) := by
  refine (hg.block k ?_ ?_).trans hi
  · exact (Array.getElem?_eq_some_iff.1 hi).1
  · intro e
    rcases h.2 with ⟨rfl, rfl⟩ | ⟨g, cap, cur, rfl, hg, hlt, r⟩
    · simp [Value.ownBlock] at e
    · simp [Value.ownBlock] at e
      subst e
      rw [hi] at hlt
      cases hlt
theorem iter_owns {w : World} {base size n k p : Nat} {e : TypeId} {v : Value} {xs : List Value} {s : ByteArray} (h : w.ownsRow base e size v n xs) (hi : w.heap[k]? = some (.stringIter s p)) (hv : v.ownBlock = some k) : False := by
  rcases h.2 with ⟨rfl, rfl⟩ | ⟨g, cap, cur, rfl, hg, hlt, r⟩
  · simp [Value.ownBlock] at hv
  · simp [Value.ownBlock] at hv
    subst hv
    rw [hi] at hlt
    cases hlt
theorem iter_set {w : World} {g k p : Nat} {s : ByteArray} (hi : w.heap[k]? = some (.stringIter s p)) (hne : g = k → False) (j : Nat) (v : Value) : (w.setCell ⟨g, j, none⟩ v).heap[k]? = some (.stringIter s p) :=
  (heap_setCell_other w ⟨g, j, none⟩ k v (fun e => hne e.symm)).trans hi
theorem iterPos_of {w : World} {k p : Nat} {s : ByteArray} (hi : w.heap[k]? = some (.stringIter s p)) : w.iterPos k = p := by unfold World.iterPos; rw [hi]
theorem alloc_heap_old {w : World} {k : Nat} {o : Obj} (h : w.heap[k]? = some o) (o' : Obj) : (w.alloc o').heap[k]? = some o := (Below.heap_alloc w o' k (Array.getElem?_eq_some_iff.1 h).1).trans h
theorem words_prep {w : World} {base j : Nat} {e : TypeId} {v : Value} {W1 : List (BitVec 32)} (h : w.ownsRow base e 1 v W1.length (encL .u32 W1)) (hj : j < W1.length) :
    ∃ g cap, v = .slice (some ⟨g, 0, none⟩) W1.length cap ∧ base ≤ g ∧ g < w.heap.size ∧ w.cell? ⟨g, j, none⟩ = some (.int .u32 (wb (W1.getD j 0))) ∧ w.frozen? ⟨g, j, none⟩ = false ∧ ∀ x : BitVec 32, (w.setCell ⟨g, j, none⟩ (.int .u32 (wb x))).ownsRow base e 1 (.slice (some ⟨g, 0, none⟩) W1.length cap) W1.length (encL .u32 (W1.set j x)) := by
  obtain ⟨g, cap, rfl, h1, h2⟩ := h.form (by omega)
  refine ⟨g, cap, rfl, h1, h2, ?_, h.frozenAt j, fun x => ?_⟩
  · rw [h.cellAt j (by omega), encL_get _ _ _ hj]
  · have := (h.stored j (.int .u32 (wb x))).1
    rw [show (encL .u32 W1).set j (.int .u32 (wb x)) = encL .u32 (W1.set j x) by simp [encL, List.map_set]] at this
    exact this
set_option maxHeartbeats 2000000 in
theorem words_any (s : ByteArray) (hs : ∀ i (h : i < s.size), hexB (s[i]'h).toNat = true) (hsz : s.size ≤ 10000) (w : World) :
    Calls Try.prog 45 #[.string s] w (RetOwn w 72 .u32 (wordsK (s.data.toList.map UInt8.toNat) s.size)) := by
  have HS := Lib.hid hs
  clear hs
  generalize hL : s.data.toList.map UInt8.toNat = L at *
  have HL : Hid (∀ i (h : i < s.size), L.getD i 0 = (s[i]'h).toNat) := fun i h => by
    subst hL
    have h' : i < s.data.size := h
    simp only [List.getD, List.getElem?_map, Array.getElem?_toList, Array.getElem?_eq_getElem h', Option.map_some, Option.getD_some]
    rfl
  clear hL
  go_enter Try.func45, Try.ntmps45
  go_wp2_with fail
  go_loopw [3] (fun v wr => ∃ k : Nat, k ≤ s.size ∧ wr.heap[w.heap.size]? = some (.stringIter s k) ∧ wr.ownsRow w.heap.size 72 1 v (wordsK L k).length (encL .u32 (wordsK L k)) ∧ Below w.heap.size w wr) (fun _ wr => s.size - wr.iterPos w.heap.size)
  case atStart => exact ⟨0, Nat.zero_le _, World.iter_heap _ _ _, World.ownsRow_nil _ _ _ _, (Below.refl _ _).alloc (Nat.le_refl _) _⟩
  case round =>
    obtain ⟨k, hk, hit, hown, hb⟩ := hrel
    by_cases hlt : k < s.size
    · have hx := HS.out k hlt
      have hc := HL.out k hlt
      simp only [hexB, Bool.or_eq_true, Bool.and_eq_true, decide_eq_true_eq] at hx
      have hnx := fun ty => Lib.run_next_ascii_at (P := Try.prog) wr w.heap.size s k ty hit hlt (by omega)
      rw [← hc] at hnx hx
      generalize hcc : L.getD k 0 = c at *
      have hit2 := Lib.iterAt_heap wr w.heap.size s k (k + 1) hit
      have hb2 := Lib.below_iterAt hb (Nat.le_refl _) s (k + 1)
      replace hown := owns_below' hown hit hit2 hb (fun j hj => Lib.iterAt_other wr w.heap.size j s (k + 1) hj)
      generalize wr.iterAt w.heap.size s (k + 1) = w1 at *
      have HIT := Lib.hid hit
      clear hit hb
      have hdig : (97 ≤ (c : Int) ∧ (c : Int) - 97 + 10 = wb (dig c)) ∨ ((c : Int) < 97 ∧ (c : Int) - 48 = wb (dig c)) := by
        by_cases h97 : 97 ≤ c
        · refine .inl ⟨by omega, ?_⟩
          unfold dig wb
          rw [if_pos h97, BitVec.toNat_add, BitVec.toNat_ofNat, show (10 : BitVec 32).toNat = 10 from rfl]
          omega
        · refine .inr ⟨by omega, ?_⟩
          unfold dig wb
          rw [if_neg h97, BitVec.toNat_ofNat]
          omega
      have HW : Hid (wordsK L (k + 1) = ((if k % 8 = 0 then wordsK L k ++ [0] else wordsK L k).set (k / 8) (((if k % 8 = 0 then wordsK L k ++ [0] else wordsK L k).getD (k / 8) 0) <<< 4 ||| dig c))) := by show _ = _; rw [wordsK, hcc]
      generalize dig c = D at *
      clear hc hcc
      have HLn := Lib.hid (wordsK_length L k)
      generalize wordsK L k = W at *
      have hq0 : (0 : Int) ≤ (k : Int) / 8 := by omega
      have hq2 : ((k : Int) / 8).toNat = k / 8 := by omega
      by_cases hm : k % 8 = 0
      · have hm' : ((k : Int) % 8 == 0) = true := by simp; omega
        rw [if_pos hm] at HW
        have hq1 : (k : Int) / 8 < ((W.length + 1 : Nat) : Int) := by have := HLn.out; omega
        rcases hdig with ⟨hc97, hd⟩ | ⟨hc97, hd⟩
        all_goals
          have HD := Lib.hid hd
          clear hd
          go_wp2_with (first | (at_builtin; refine wpList_append_row rfl _ _ u32T rfl w.heap.size _ _ _ rfl (hown.alloc _) (some ⟨w1.heap.size, 0, none⟩) 1 1 [.int .u32 0] rfl rfl (Blk.new w1 #[.int .u32 0] 72).cells (by simp [Value.oneCell']) (by have := HLn.out; omega) (hb2.alloc hb2.size _).size ?_; intro v2 w2 h2 hgr hor; obtain ⟨g, cap, rfl, hg1, hg2, hcell, hfr, hst⟩ := words_prep (W1 := W ++ [0]) (j := k / 8) (by rw [List.length_append, encL_append]; exact h2) (by have := HLn.out; simp; omega); rw [List.length_append, List.length_singleton] at hst ⊢; have hit3 := iter_grown (World.ownsRow.alloc hown (.cells #[.int .u32 0] 72)) (alloc_heap_old hit2 (.cells #[.int .u32 0] 72)) hgr; have hb3 := below_grown (hb2.alloc hb2.size (.cells #[.int .u32 0] 72)) (hb2.alloc hb2.size _).size hgr (fun q hq => ((hown.alloc (.cells #[.int .u32 0] 72)).lt q hq).1)) | fail)
          go_roundw
          case rel =>
            rw [HD.out, bits_or_u32]
            refine ⟨k + 1, by omega, ?_, ?_, below_setCell hb3 hg1 _ _⟩
            · exact iter_set hit3 (fun e => by subst e; exact iter_owns h2 hit3 rfl) _ _
            · rw [HW.out, List.length_set, List.length_append, List.length_singleton]
              have := hst ((W ++ [0])[k / 8]?.getD 0#32 <<< 4 ||| D)
              simp only [List.getD_eq_getElem?_getD]
              exact this
          case measure =>
            rw [iterPos_of HIT.out]
            rw [iterPos_of (iter_set hit3 (fun e => by subst e; exact iter_owns h2 hit3 rfl) _ _)]
            omega
      · have hm' : ((k : Int) % 8 == 0) = false := by simp; omega
        rw [if_neg hm] at HW
        obtain ⟨g, cap, rfl, hg1, hg2, hcell, hfr, hst⟩ := words_prep (W1 := W) (j := k / 8) hown (by have := HLn.out; omega)
        have hq1 : (k : Int) / 8 < (W.length : Int) := by have := HLn.out; omega
        rcases hdig with ⟨hc97, hd⟩ | ⟨hc97, hd⟩
        all_goals
          have HD := Lib.hid hd
          clear hd
          go_wp2_with fail
          go_roundw
          case rel =>
            rw [HD.out, bits_or_u32]
            refine ⟨k + 1, by omega, ?_, ?_, below_setCell hb2 hg1 _ _⟩
            · exact iter_set hit2 (fun e => by subst e; exact iter_owns hown hit2 rfl) _ _
            · rw [HW.out, List.length_set]
              have := hst (W[k / 8]?.getD 0#32 <<< 4 ||| D)
              simp only [List.getD_eq_getElem?_getD]
              exact this
          case measure =>
            rw [iterPos_of HIT.out]
            rw [iterPos_of (iter_set hit2 (fun e => by subst e; exact iter_owns hown hit2 rfl) _ _)]
            omega
    · obtain rfl : k = s.size := by omega
      have hnx := fun ty => Lib.run_next_end_at (P := Try.prog) wr w.heap.size s s.size ty hit (by omega)
      obtain ⟨A, cap, rfl, _⟩ := owns_form hown
      go_wp2_with fail
      go_ret
      exact ⟨_, rfl, hown, hb⟩
end Go.Proofs.Ytfamcgmgcchppaa
