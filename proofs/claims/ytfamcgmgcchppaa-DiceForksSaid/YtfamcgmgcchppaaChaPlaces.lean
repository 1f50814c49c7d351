/- The reference's block: the places of a round's quarters; the block by definition; that it is the same. -/
import Derived.Test.YtfamcgmgcchppaaChaBlock
import Derived.Deep.CutRange
namespace Go.Proofs.Ytfamcgmgcchppaa
open Go.RowKit

/-- The places of the eight quarters of two rounds. -/
def placesL : List (List Nat) := [[0, 4, 8, 12], [1, 5, 9, 13], [2, 6, 10, 14], [3, 7, 11, 15], [0, 5, 10, 15], [1, 6, 11, 12], [2, 7, 8, 13], [3, 4, 9, 14]]
/-- Cells of whole numbers. -/
def pcs (p : List Nat) : Array Value := (p.map fun (x : Nat) => Value.int .i64 (x : Int)).toArray
theorem pcs_size (p : List Nat) : (pcs p).size = p.length := by simp [pcs]
theorem pcs_get (p : List Nat) (i : Nat) (h : i < p.length) : (pcs p)[i]? = some (.int .i64 ((p.getD i 0 : Nat) : Int)) := by simp [pcs, h]
theorem pcs_one (p : List Nat) : (pcs p).all (·.oneCell') = true := by
  rw [Array.all_eq_true_iff_forall_mem]
  intro v hv
  simp only [pcs, List.mem_toArray, List.mem_map] at hv
  obtain ⟨x, _, rfl⟩ := hv
  rfl
/-- Words set at the first places. -/
def setP (l : List (BitVec 32)) (p : List Nat) (q : List (BitVec 32)) : Nat → List (BitVec 32)
  | 0 => l
  | i + 1 => (setP l p q i).set (p.getD i 0) (q.getD i 0)
theorem setP_length (l : List (BitVec 32)) (p : List Nat) (q : List (BitVec 32)) (i : Nat) : (setP l p q i).length = l.length := by
  induction i with
  | zero => rfl
  | succ i ih => simp [setP, ih]
/-- A quarter of the words at places. -/
def quQ (l : List (BitVec 32)) (p : List Nat) : Q4 := qr (l.getD (p.getD 0 0) 0) (l.getD (p.getD 1 0) 0) (l.getD (p.getD 2 0) 0) (l.getD (p.getD 3 0) 0)
def Q4.list (q : Q4) : List (BitVec 32) := [q.a, q.b, q.c, q.d]
/-- The first k quarters of two rounds. -/
def plK (l : List (BitVec 32)) : Nat → List (BitVec 32)
  | 0 => l
  | k + 1 => setP (plK l k) (placesL.getD k []) (quQ (plK l k) (placesL.getD k [])).list 4
theorem plK_length (l : List (BitVec 32)) (k : Nat) : (plK l k).length = l.length := by
  induction k with
  | zero => rfl
  | succ k ih => simp [plK, setP_length, ih]
theorem plK_step (l : List (BitVec 32)) (k a b c d : Nat) (h : placesL.getD k [] = [a, b, c, d]) : plK l (k + 1) = qset (plK l k) a b c d := by
  rw [plK, h]
  rfl
theorem plK_all (l : List (BitVec 32)) : plK l 8 = diaK (colK l 4) 4 := by
  rw [plK_step l 7 3 4 9 14 rfl, plK_step l 6 2 7 8 13 rfl, plK_step l 5 1 6 11 12 rfl, plK_step l 4 0 5 10 15 rfl, plK_step l 3 3 7 11 15 rfl, plK_step l 2 2 6 10 14 rfl, plK_step l 1 1 5 9 13 rfl, plK_step l 0 0 4 8 12 rfl]
  rfl
theorem state0_ref (key : List (BitVec 8)) (ctr : BitVec 32) (nonce : List (BitVec 8)) : fillW 13 nonce ((fillW 4 key (base0 0#32) 8).set 12 ctr) 3 = state0 key ctr nonce := rfl

/-- The places' cells. -/
def placesV : Array Value := pcs [0, 4, 8, 12, 1, 5, 9, 13, 2, 6, 10, 14, 3, 7, 11, 15, 0, 5, 10, 15, 1, 6, 11, 12, 2, 7, 8, 13, 3, 4, 9, 14]
theorem placesL_at (k : Nat) (hk : k < 8) : (placesL.getD k []).length = 4 ∧ ∀ i, (placesL.getD k []).getD i 0 < 16 := by
  have h : k = 0 ∨ k = 1 ∨ k = 2 ∨ k = 3 ∨ k = 4 ∨ k = 5 ∨ k = 6 ∨ k = 7 := by omega
  rcases h with rfl | rfl | rfl | rfl | rfl | rfl | rfl | rfl
  all_goals
    refine ⟨rfl, fun i => ?_⟩
    rcases i with _ | _ | _ | _ | i
    all_goals simp [placesL, List.getD]
theorem size50 : (Try.prog.info? 91).map (·.size) = some 4 := by kernel_rfl
theorem size51 : (Try.prog.info? 92).map (·.size) = some 32 := by kernel_rfl
theorem size33 : (Try.prog.info? 94).map (·.size) = some 4 := by kernel_rfl
theorem run_index_places (k : Nat) (hk : k < 8) (w : World) : (Instr.index 92 (.agg placesV) (.int .i64 (k : Int))).run Try.prog w = .ok (.agg (pcs (placesL.getD k []))) w := by
  have h0 : (0 : Int) ≤ (k : Int) := by omega
  have hagg : (isAgg 91).run Try.prog w = .ok true w := by
    unfold isAgg
    rw [Sem.run_bind, run_underlying Try.underlying91 w]
    rfl
  cases hq : Try.prog.info? 91 with
  | none => have := size50; simp [hq] at this
  | some inf =>
    have hsz : inf.size = 4 := by have := size50; simpa [hq] using this
    have hx : placesV.extract (k * 4) (k * 4 + 4) = pcs (placesL.getD k []) := by
      have h : k = 0 ∨ k = 1 ∨ k = 2 ∨ k = 3 ∨ k = 4 ∨ k = 5 ∨ k = 6 ∨ k = 7 := by omega
      rcases h with rfl | rfl | rfl | rfl | rfl | rfl | rfl | rfl <;> simp [placesV, pcs, placesL]
    simp [Instr.index, asIntOf, run_underlying Try.underlying92, h0, sizeOf, typeInfo, hq, hsz, part, hx]
    intro h
    omega
set_option maxRecDepth 100000 in
set_option maxHeartbeats 1600000 in
theorem places_any (w : World) : Calls Try.prog 42 #[] w fun e w' => e = .returned (.agg placesV) ∧ Below w.heap.size w w' := by
  go_enter Try.func42, Try.ntmps42
  go_wp2_with (refine wpList_store_last rfl 92 _ _ rfl _ _ placesV 92 rfl rfl (by simp; done) size51 rfl (pcs_one _) ?_)
  refine bodyPost_ret (results_cell_row rfl _ _ _ _ _ _ _ rfl (Blk.new w placesV 92) Try.underlying92 rfl size51) rfl ⟨rfl, ?_⟩
  exact (Below.refl _ _).alloc (by omega) _
end Go.Proofs.Ytfamcgmgcchppaa
