/- Bytes turned one after the other; a key's block filled. -/
import Derived.Test.YtgcdjickkbiglaaKdfPure
import Derived.Test.YtgcdjickkbiglaaArgV0
namespace Go.Proofs.Ytgcdjickkbiglaa
open Go.RowKit
set_option linter.unusedVariables false
set_option linter.unusedSimpArgs false
theorem own_store {w : World} {base g n c : Nat} {q : List (BitVec 8)} (h : OwnB w base (.slice (some ⟨g, 0, none⟩) n c) q) (hn : q.length = n) (j : Nat) (hj : j < n) :
    w.cell? ⟨g, j, none⟩ = some (.int .u8 (wb (q.getD j 0))) ∧ w.frozen? ⟨g, j, none⟩ = false ∧ ∀ x : BitVec 8, OwnB (w.setCell ⟨g, j, none⟩ (.int .u8 (wb x))) base (.slice (some ⟨g, 0, none⟩) n c) (q.set j x) := by
  subst hn
  refine ⟨?_, World.ownsRow.frozenAt h j, fun x => ?_⟩
  · rw [World.ownsRow.cellAt h j (by omega), encL_get _ _ _ hj]
  · have := (World.ownsRow.stored h j (.int .u8 (wb x))).1
    rw [show (encL .u8 q).set j (.int .u8 (wb x)) = encL .u8 (q.set j x) by simp [encL, List.map_set]] at this
    unfold OwnB
    rw [List.length_set]
    exact this
/-- The first j bytes turned, the others not yet. -/
def mixL (K : List (BitVec 8)) (x : BitVec 8) (j : Nat) : List (BitVec 8) := (K.take j).map (· ^^^ x) ++ K.drop j
theorem mixL_length (K : List (BitVec 8)) (x : BitVec 8) (j : Nat) : (mixL K x j).length = K.length := by
  unfold mixL
  rw [List.length_append, List.length_map, List.length_take, List.length_drop]
  omega
theorem mixL_get (K : List (BitVec 8)) (x : BitVec 8) (j : Nat) (h : j < K.length) : (mixL K x j).getD j 0 = K.getD j 0 := by
  unfold mixL
  simp only [List.getD]
  rw [List.getElem?_append_right (by simp; omega)]
  simp [List.length_take, Nat.min_eq_left (Nat.le_of_lt h)]
theorem mixL_set (K : List (BitVec 8)) (x : BitVec 8) (j : Nat) (h : j < K.length) : (mixL K x j).set j (K.getD j 0 ^^^ x) = mixL K x (j + 1) := by
  unfold mixL
  have hl : ((K.take j).map (· ^^^ x)).length = j := by simp; omega
  rw [List.set_append_right _ _ (by omega), hl, Nat.sub_self, List.drop_eq_getElem_cons h, List.set_cons_zero, List.take_succ_eq_append_getElem h, List.map_append]
  simp [List.getD, h]
theorem mixL_zero (K : List (BitVec 8)) (x : BitVec 8) : mixL K x 0 = K := by simp [mixL]
theorem mixL_all (K : List (BitVec 8)) (x : BitVec 8) : mixL K x K.length = K.map (· ^^^ x) := by simp [mixL]
theorem hmPad_over (key : List (BitVec 8)) : overL (List.replicate 64 (0 : BitVec 8)) 0 ((hmKey key).take 64) = hmPad key := by
  have h := hmKey_length key
  unfold overL hmPad
  rw [List.take_of_length_le h]
  rw [List.take_zero, List.nil_append, Nat.zero_add, List.drop_replicate]
end Go.Proofs.Ytgcdjickkbiglaa
