/- The contracts of octet and of its reference at values that read as bytes. -/
import Derived.Test.YtjnbgoiaocpcjaaOctKey
import Derived.Test.YtjnbgoiaocpcjaaArrEq
namespace Go.Proofs.Ytjnbgoiaocpcjaa
open Go.RowKit
/-- A value that reads as bytes. -/
def Arg (w : World) (v : Value) (l : List (BitVec 8)) : Prop := ∃ A cap, v = .slice A l.length cap ∧ l.length ≤ cap ∧ Rd w .u8 A l
theorem Arg.below {w w' : World} {v : Value} {l : List (BitVec 8)} (h : Arg w v l) (hb : Below w.heap.size w w') : Arg w' v l :=
  let ⟨A, cap, h1, h2, h3⟩ := h
  ⟨A, cap, h1, h2, h3.below hb⟩
theorem Arg.nil (w : World) : Arg w (.slice none 0 0) [] := ⟨none, 0, rfl, Nat.le_refl _, Rd.nil⟩
theorem Arg.drewN {w : World} {v : Value} {l : List (BitVec 8)} (h : Arg w v l) (n : Nat) : Arg (w.drewN n) v l := h
/-- A value that owns its bytes. -/
def OwnB (w : World) (base : Nat) (v : Value) (l : List (BitVec 8)) : Prop := w.ownsRow base 5 1 v l.length (encL .u8 l)
theorem OwnB.arg {w : World} {base : Nat} {v : Value} {l : List (BitVec 8)} (h : OwnB w base v l) : Arg w v l := by
  obtain ⟨A, cap, h1, h2, h3⟩ := ownsRow_rd h
  exact ⟨A, cap, h1, h2, h3⟩
theorem OwnB.below {w w' : World} {base : Nat} {v : Value} {l : List (BitVec 8)} (h : OwnB w base v l) (hb : Below w.heap.size w w') : OwnB w' base v l := owns_below h hb
theorem arg_mk {w : World} {A : Option Addr} {cap : Nat} {l : List (BitVec 8)} (hR : Rd w .u8 A l) (hc : l.length ≤ cap) : Arg w (.slice A l.length cap) l := ⟨A, cap, rfl, hc, hR⟩
theorem OwnB.drew {w : World} {base : Nat} {v : Value} {l : List (BitVec 8)} (h : OwnB w base v l) : OwnB w.drew base v l := h
theorem Arg.drew {w : World} {v : Value} {l : List (BitVec 8)} (h : Arg w v l) : Arg w.drew v l := h
variable {w : World} {v u : Value} {l m : List (BitVec 8)}
theorem clone_v (h : Arg w v l) (hlen : l.length ≤ 140737488355328) : Calls Try.prog 74 #[v] w (RetOwn w 5 .u8 l) := by
  obtain ⟨A, cap, rfl, hc, hr⟩ := h
  exact clone_any l A cap w hr hlen
theorem put32_v (h : Arg w v l) (x : BitVec 32) (hlen : l.length + 4 ≤ 140737488355328) : Calls Try.prog 52 #[v, .int .u32 (wb x)] w (RetOwn w 5 .u8 (l ++ low (x.setWidth 64) 4)) := by
  obtain ⟨A, cap, rfl, hc, hr⟩ := h
  exact put32_any l A cap x w hr hlen
theorem put64_v (h : Arg w v l) (x : BitVec 64) (hlen : l.length + 8 ≤ 140737488355328) : Calls Try.prog 67 #[v, .int .u64 (wb x)] w (RetOwn w 5 .u8 (l ++ low x 8)) := by
  obtain ⟨A, cap, rfl, hc, hr⟩ := h
  exact put64_any l A cap x w hr hlen
theorem get64_v (h : Arg w v l) : Calls Try.prog 76 #[v] w fun e w' => e = .returned (.int .u64 (wb (get64 l))) ∧ w = w' := by
  obtain ⟨A, cap, rfl, hc, hr⟩ := h
  exact get64_any l A cap w hr hc
theorem zero_v (h : Arg w v l) (hlen : l.length ≤ 140737488355328) : Calls Try.prog 70 #[v] w fun e w' => e = .returned (.bool (l.all (· == 0))) ∧ w = w' := by
  obtain ⟨A, cap, rfl, hc, hr⟩ := h
  exact zero_any l A cap w hr hlen
theorem read_v (h : Arg w v l) (hlen : l.length ≤ 140737488355328) : Calls Try.prog 56 #[v] w fun e w' => ∃ g A' cap', e = .returned (.pointer (some ⟨g, 0, none⟩)) ∧ Rdr w' g A' cap' l 0 0 ∧ w.heap.size ≤ g ∧ Below w.heap.size w w' := by
  obtain ⟨A, cap, rfl, hc, hr⟩ := h
  exact read_any l A cap w hr hlen
/-- Two worlds behind one call. -/
theorem RetOwn.out {w w' : World} {l : List (BitVec 8)} {e : Ending} (h : RetOwn w 5 .u8 l e w') : ∃ v, e = .returned v ∧ OwnB w' w.heap.size v l ∧ Below w.heap.size w w' := h
end Go.Proofs.Ytjnbgoiaocpcjaa
