/- A key, a counter, a nonce in a struct that came in by value. -/
import Derived.Test.YtdpdpeifmignnaaOpen
import Derived.Test.YtdpdpeifmignnaaPart
namespace Go.Proofs.Ytdpdpeifmignnaa
open Go.RowKit Go.ChangeShapes Go.WideShapes
theorem open_used {P : Program} {W : World} {r : Reach} {base : Nat} {t e8 e32 : TypeId} {v : Value} {d : TypeDesc} (ht : P.underlying t = some d) (hd : (match d with | .struct _ | .array _ _ => true | _ => false) = true)
    (hts : P.cellTypes P.depth t = some (List.replicate 32 e8 ++ e32 :: List.replicate 12 e8)) (hn : P.cellsOf t = 45) (h8 : P.underlying e8 = some (.int .u8)) (h32 : P.underlying e32 = some (.int .u32)) (h : Value.okWide P W r base t v) :
    ∃ (key : List (BitVec 8)) (ctr : BitVec 32) (nonce : List (BitVec 8)), key.length = 32 ∧ nonce.length = 12 ∧ v = .agg (usedC key ctr nonce) := by
  obtain ⟨cs, rfl, hl, hc⟩ := okWide_cells ht hd _ hts (by simpa using hn) h
  have hl45 : cs.length = 45 := by simpa using hl
  obtain ⟨key, hk, e1⟩ := seg_words (W := W) (r := r) (base := base) h8 isU8 cs _ 0 32 (by simp) hl hc
  obtain ⟨nonce, hno, e2⟩ := seg_words (W := W) (r := r) (base := base) h8 isU8 cs _ 33 12 (by simp) hl hc
  have hlt : 32 < cs.length := by omega
  obtain ⟨ctr, e3⟩ := cell_word h32 isU32 (hc 32 cs[32] e32 (List.getElem?_eq_getElem hlt) (by simp))
  refine ⟨key, ctr, nonce, hk, hno, ?_⟩
  have hcs : cs = cs.take 32 ++ cs[32] :: cs.drop 33 := by
    rw [← List.drop_eq_getElem_cons hlt, List.take_append_drop]
  rw [List.drop_zero] at e1
  have e1' : cs.take 32 = encL .u8 key := e1
  have e2' : cs.drop 33 = encL .u8 nonce := by
    rw [List.take_of_length_le (by simp; omega)] at e2
    exact e2
  unfold usedC
  rw [← e1', ← e2', ← e3, ← hcs]
end Go.Proofs.Ytdpdpeifmignnaa
