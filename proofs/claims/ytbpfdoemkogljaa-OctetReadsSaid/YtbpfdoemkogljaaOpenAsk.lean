/- A slice of asks opened: pairs of whole numbers. -/
import Derived.Test.YtbpfdoemkogljaaOpenS
import Derived.Test.YtbpfdoemkogljaaWReads
import Derived.Deep.SlicePairs
namespace Go.Proofs.Ytbpfdoemkogljaa
open Go.RowKit Go.ChangeShapes Go.WideShapes
theorem open_asks {P : Program} {W : World} {r : Reach} {b0 : Nat} {H : Type} {enc : TypeId × Value → H} {t e : TypeId} {f0 f1 : Field} (ht : P.underlying t = some (.slice e)) (he : P.underlying e = some (.struct #[f0, f1]))
    (ce : P.cellsOf e = 2) (o0 : f0.offset = 0) (o1 : f1.offset = 1) (c0 : P.cellsOf f0.type = 1) (c1 : P.cellsOf f1.type = 1) (u0 : P.underlying f0.type = some (.int .i64)) (u1 : P.underlying f1.type = some (.int .i64))
    {v : Value} {d : DataW H} {ps : List MemPlace} (hval : Value.okWide P W r b0 t v) (hd : DataW.Trod enc P W 0 (fun _ => true) true t v d ps)
    {ts : List TypeId} {ds : List (DataW H)} (hsz : (DataW.weightsEach P ts ds).all (· ≤ reachBytes) = true) {j : Nat} (hj : ts[j]? = some t) (hdj : ds[j]? = some d) (bb : Nat) (hbb : P.bytesOf e = bb) (hb1 : 1 ≤ bb) :
    ∃ (A : Option Addr) (cap : Nat) (l : List (Int × Int)), v = .slice A l.length cap ∧ l.length ≤ 140737488351232 ∧ AskRd W A l := by
  obtain ⟨a0, len, cap, rfl⟩ := okWide_slice ht hval
  obtain ⟨fuel, hf⟩ := hd
  rcases Go.Deep.open_slice_pairs ht he ce o0 o1 c0 c1 hf with ⟨hcs, _⟩ | ⟨a, ln, c, m, n, V0, V1, D0, D1, P0, P1, hcs, _, hl, hm, hmm, hx, hi⟩
  · simp [Value.cells] at hcs
    obtain ⟨rfl, rfl, rfl⟩ := hcs
    exact ⟨none, 0, [], rfl, by simp, fun i h => absurd h (by simp)⟩
  · simp [Value.cells] at hcs
    obtain ⟨rfl, rfl, rfl⟩ := hcs
    simp only [if_true] at hmm
    simp only [Prod.mk.injEq] at hx
    obtain ⟨rfl, _⟩ := hx
    have hw := sized_slice hsz hj hdj ht
    rw [hbb] at hw
    simp only [List.length_map, List.length_range, reachBytes] at hw
    have hcap : len ≤ 140737488351232 := by
      have := Nat.le_mul_of_pos_right (len + (m - len)) hb1
      omega
    refine ⟨some a, cap, (List.range len).map fun i => ((match V0 i with | .int _ z => z | _ => 0), (match V1 i with | .int _ z => z | _ => 0)), by simp, by simpa using hcap, fun i h => ?_⟩
    simp only [List.length_map, List.length_range] at h
    obtain ⟨h0, h1, t0, t1⟩ := hi i (by omega)
    obtain ⟨z0, hv0, _⟩ := DataW.trod_int u0 t0
    obtain ⟨z1, hv1, _⟩ := DataW.trod_int u1 t1
    simp only [List.cons.injEq, and_true] at hv0 hv1
    rw [hv0] at h0
    rw [hv1] at h1
    obtain ⟨bb', off, spot⟩ := a
    have hs : spot = none := by
      obtain ⟨q0, _⟩ := hi 0 (by omega)
      simpa [Addr.add] using World.cell?_spot q0
    subst hs
    rw [add_lit] at h0 h1
    refine ⟨bb', off, rfl, ?_, ?_⟩
    · rw [h0]
      simp [List.getD, h, hv0]
    · rw [Nat.add_assoc, h1]
      simp [List.getD, h, hv1]
end Go.Proofs.Ytbpfdoemkogljaa
