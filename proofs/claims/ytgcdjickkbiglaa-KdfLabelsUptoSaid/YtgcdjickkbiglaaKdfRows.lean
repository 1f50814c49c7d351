/- The code of a key and of one, two or three parts that stand in a row that was built for the call. -/
import Derived.Test.YtgcdjickkbiglaaKdfSmall
import Derived.Test.YtgcdjickkbiglaaKdfWake
import Derived.Test.YtgcdjickkbiglaaArgV0
namespace Go.Proofs.Ytgcdjickkbiglaa
open Go.RowKit
set_option linter.unusedVariables false
set_option linter.unusedSimpArgs false
theorem Blk.rdv {w : World} {g : Nat} {vs : List Value} {ty : TypeId} (h : Blk w g vs.toArray ty) : RdV w (some ⟨g, 0, none⟩) vs := cells_rdv (by have := h.cells; simpa using this)
theorem RowArg.below {w w' : World} {v : Value} {l : List (BitVec 8)} (h : RowArg w v l) (hb : Below w.heap.size w w') : RowArg w' v l := by
  obtain ⟨A, c, rfl, h1, h2, h3⟩ := h
  exact ⟨A, c, rfl, h1, h2, h3.below hb⟩
theorem RowArg.arg {w : World} {v : Value} {l : List (BitVec 8)} (h : RowArg w v l) : Arg w v l := by
  obtain ⟨A, c, rfl, h1, h2, h3⟩ := h
  exact ⟨A, c, rfl, h1, h3⟩
theorem RowArg.nil (w : World) : RowArg w (.slice none 0 0) [] := ⟨none, 0, rfl, Nat.le_refl _, by simp, Rd.nil⟩
theorem OwnB.row {w : World} {base : Nat} {v : Value} {l : List (BitVec 8)} (h : OwnB w base v l) (hl : l.length ≤ 140737488351232) : RowArg w v l := by
  obtain ⟨A, c, rfl, h1, h2⟩ := h.arg
  exact ⟨A, c, rfl, h1, hl, h2⟩
theorem Blk.rowArg {w : World} {g : Nat} {l : List (BitVec 8)} {ty : TypeId} {n c : Nat} (h : Blk w g (encs .u8 l) ty) (hn : l.length = n) (hc : n ≤ c) (hm : c ≤ 140737488351232) : RowArg w (.slice (some ⟨g, 0, none⟩) n c) l := ⟨_, c, by rw [hn], by omega, by omega, h.rd⟩
theorem Blk.arg {w : World} {g : Nat} {l : List (BitVec 8)} {ty : TypeId} {n c : Nat} (h : Blk w g (encs .u8 l) ty) (hn : l.length = n) (hc : n ≤ c) : Arg w (.slice (some ⟨g, 0, none⟩) n c) l := ⟨_, c, by rw [hn], by omega, h.rd⟩
def HmacD (key m : List (BitVec 8)) (w : World) (e : Ending) (w' : World) : Prop := e = .returned (.agg (encs .u8 (hmac key m))) ∧ Below w.heap.size w w'
theorem hmac0_v {w : World} {kv : Value} {key : List (BitVec 8)} (hK : Arg w kv key) (hkl : key.length ≤ 281474976710656) :
    Calls Try.prog 10 #[kv, .slice none 0 0] w (HmacD key [] w) := by
  obtain ⟨A, c, rfl, hc, hR⟩ := hK
  exact hmac_any key A c [] [] none 0 w hR hc hkl (fun i hi => by simp at hi) rfl (fun i hi => by simp at hi) (by simp) (by simp)
theorem hmac1_v {w : World} {kv v0 : Value} {key l0 : List (BitVec 8)} {g : Nat} {T : TypeId} (hK : Arg w kv key) (hkl : key.length ≤ 281474976710656) (hB : Blk w g #[v0] T) (h0 : RowArg w v0 l0) (hl : l0.length ≤ 1125899906842624) :
    Calls Try.prog 10 #[kv, .slice (some ⟨g, 0, none⟩) 1 1] w (HmacD key l0 w) := by
  obtain ⟨A, c, rfl, hc, hR⟩ := hK
  have h := hmac_any key A c [l0] [v0] (some ⟨g, 0, none⟩) 1 w hR hc hkl (Blk.rdv (vs := [v0]) hB) rfl (fun i hi => by
    obtain rfl : i = 0 := by simp at hi; omega
    exact h0) (by simp) (by simpa using hl)
  rw [show [l0].flatten = l0 by simp] at h
  exact h
theorem hmac2_v {w : World} {kv v0 v1 : Value} {key l0 l1 : List (BitVec 8)} {g : Nat} {T : TypeId} (hK : Arg w kv key) (hkl : key.length ≤ 281474976710656) (hB : Blk w g #[v0, v1] T) (h0 : RowArg w v0 l0) (h1 : RowArg w v1 l1) (hl : l0.length + l1.length ≤ 1125899906842624) :
    Calls Try.prog 10 #[kv, .slice (some ⟨g, 0, none⟩) 2 2] w (HmacD key (l0 ++ l1) w) := by
  obtain ⟨A, c, rfl, hc, hR⟩ := hK
  have h := hmac_any key A c [l0, l1] [v0, v1] (some ⟨g, 0, none⟩) 2 w hR hc hkl (Blk.rdv (vs := [v0, v1]) hB) rfl (fun i hi => by
    have : i = 0 ∨ i = 1 := by simp at hi; omega
    rcases this with rfl | rfl
    · exact h0
    · exact h1) (by simp) (by simpa using hl)
  rw [show [l0, l1].flatten = l0 ++ l1 by simp] at h
  exact h
theorem hmac3_v {w : World} {kv v0 v1 v2 : Value} {key l0 l1 l2 : List (BitVec 8)} {g : Nat} {T : TypeId} (hK : Arg w kv key) (hkl : key.length ≤ 281474976710656) (hB : Blk w g #[v0, v1, v2] T) (h0 : RowArg w v0 l0) (h1 : RowArg w v1 l1) (h2 : RowArg w v2 l2) (hl : l0.length + (l1.length + l2.length) ≤ 1125899906842624) :
    Calls Try.prog 10 #[kv, .slice (some ⟨g, 0, none⟩) 3 3] w (HmacD key (l0 ++ l1 ++ l2) w) := by
  obtain ⟨A, c, rfl, hc, hR⟩ := hK
  have h := hmac_any key A c [l0, l1, l2] [v0, v1, v2] (some ⟨g, 0, none⟩) 3 w hR hc hkl (Blk.rdv (vs := [v0, v1, v2]) hB) rfl (fun i hi => by
    have : i = 0 ∨ i = 1 ∨ i = 2 := by simp at hi; omega
    rcases this with rfl | rfl | rfl
    · exact h0
    · exact h1
    · exact h2) (by simp) (by simpa using hl)
  rw [show [l0, l1, l2].flatten = l0 ++ l1 ++ l2 by simp] at h
  exact h
/-- A row of values that was built for a call. -/
def RowV (w : World) (u : Value) (vs : List Value) : Prop := ∃ g, u = .slice (some ⟨g, 0, none⟩) vs.length vs.length ∧ Blk w g vs.toArray 22
theorem RowV.below {w w' : World} {u : Value} {vs : List Value} (h : RowV w u vs) (hb : Below w.heap.size w w') : RowV w' u vs := by
  obtain ⟨g, rfl, h1⟩ := h
  exact ⟨g, rfl, h1.below hb h1.lt⟩
theorem RowV.new (w : World) (vs : List Value) (n : Nat) (hn : vs.length = n) : RowV (w.alloc (.cells vs.toArray 22)) (.slice (some ⟨w.heap.size, 0, none⟩) n n) vs := by
  subst hn
  exact ⟨_, rfl, Blk.new _ _ _⟩
theorem hmac1_r {w : World} {kv v0 u : Value} {key l0 : List (BitVec 8)} (hK : Arg w kv key) (hkl : key.length ≤ 281474976710656) (hB : RowV w u [v0]) (h0 : RowArg w v0 l0) (hl : l0.length ≤ 1125899906842624) :
    Calls Try.prog 10 #[kv, u] w (HmacD key l0 w) := by
  obtain ⟨g, rfl, h1⟩ := hB
  exact hmac1_v hK hkl h1 h0 hl
theorem hmac3_r {w : World} {kv v0 v1 v2 u : Value} {key l0 l1 l2 : List (BitVec 8)} (hK : Arg w kv key) (hkl : key.length ≤ 281474976710656) (hB : RowV w u [v0, v1, v2]) (h0 : RowArg w v0 l0) (h1 : RowArg w v1 l1) (h2 : RowArg w v2 l2) (hl : l0.length + (l1.length + l2.length) ≤ 1125899906842624) :
    Calls Try.prog 10 #[kv, u] w (HmacD key (l0 ++ l1 ++ l2) w) := by
  obtain ⟨g, rfl, hb⟩ := hB
  exact hmac3_v hK hkl hb h0 h1 h2 hl
end Go.Proofs.Ytgcdjickkbiglaa
