/- octet's reader: Read, Raw, U16, U32, U64, Key, Left, Err. -/
import Derived.Test.YtjnbgoiaocpcjaaOctRdr
namespace Go.Proofs.Ytjnbgoiaocpcjaa
open Go.RowKit
/-- What a reader's method leaves behind. -/
def Left (w : World) (g : Nat) (A : Option Addr) (cap : Nat) (b : List (BitVec 8)) (at_ : Nat) (err n : Int) (w' : World) : Prop :=
  Rdr w' g A cap b (rdAt b.length at_ err n) (rdErr b.length at_ err n) ∧ Upd g w w'
theorem rdGot_length (b : List (BitVec 8)) (at_ : Nat) (err n : Int) : (rdGot b at_ err n).length ≤ b.length := by
  unfold rdGot
  split
  · rw [List.length_take, List.length_drop]; omega
  · simp
/-- A new row and a reader that has gone on. -/
def RawD (w : World) (g : Nat) (A : Option Addr) (cap : Nat) (b : List (BitVec 8)) (at_ : Nat) (err n : Int) (e : Ending) (w' : World) : Prop :=
  ∃ v, e = .returned v ∧ w'.ownsRow w.heap.size 5 1 v (rdGot b at_ err n).length (encL .u8 (rdGot b at_ err n)) ∧ Left w g A cap b at_ err n w'
set_option maxHeartbeats 1000000 in
theorem raw_any (g : Nat) (A : Option Addr) (cap : Nat) (b : List (BitVec 8)) (at_ : Nat) (err n : Int) (w : World) (h : Rdr w g A cap b at_ err) :
    Calls Try.prog 57 #[.pointer (some ⟨g, 0, none⟩), .int .i64 n] w (RawD w g A cap b at_ err n) := by
  have hc := Lib.hid (take_any g A cap b at_ err n w h)
  have hlen := h.hlen
  have hg := rdGot_length b at_ err n
  clear h
  go_enter Try.func57, Try.ntmps57
  go_wp2_with fail
  refine hc.out.mono ?_
  rintro e w1 ⟨A', cap', rfl, hr, hd, hu⟩
  go_wp2_with fail
  refine (clone_any _ A' cap' w1 hr (by omega)).mono ?_
  rintro e w2 ⟨v, rfl, hown, hb⟩
  go_wp2_with fail
  go_ret
  exact ⟨_, rfl, owns_base hown hu.size, hd.below hb, hu.trans (Upd.of_below hb)⟩
theorem raw_nil (n : Int) (w : World) : Calls Try.prog 57 #[.pointer none, .int .i64 n] w fun e w' => e = .returned (.slice none 0 0) ∧ w = w' := by
  go_enter Try.func57, Try.ntmps57
  go_wp2_with fail
  go_ret
  exact ⟨rfl, rfl⟩
theorem own_get64 {w : World} {base : Nat} {v : Value} {l : List (BitVec 8)} (h : w.ownsRow base 5 1 v l.length (encL .u8 l)) : Calls Try.prog 76 #[v] w fun e w' => e = .returned (.int .u64 (wb (get64 l))) ∧ w = w' := by
  obtain ⟨A, cap, rfl, hc, hr⟩ := ownsRow_rd h
  exact get64_any l A cap w hr hc
theorem conv64_16 (x : BitVec 64) : IntKind.u16.wrap (wb x) = wb (x.setWidth 16) := conv_u16 x
theorem conv64_32 (x : BitVec 64) : IntKind.u32.wrap (wb x) = wb (x.setWidth 32) := conv_u32 x
attribute [local go_sem] conv64_16 conv64_32
def U64D (w : World) (g : Nat) (A : Option Addr) (cap : Nat) (b : List (BitVec 8)) (at_ : Nat) (err : Int) (e : Ending) (w' : World) : Prop :=
  e = .returned (.int .u64 (wb (get64 (rdGot b at_ err 8)))) ∧ Left w g A cap b at_ err 8 w'
def U32D (w : World) (g : Nat) (A : Option Addr) (cap : Nat) (b : List (BitVec 8)) (at_ : Nat) (err : Int) (e : Ending) (w' : World) : Prop :=
  e = .returned (.int .u32 (wb ((get64 (rdGot b at_ err 4)).setWidth 32))) ∧ Left w g A cap b at_ err 4 w'
def U16D (w : World) (g : Nat) (A : Option Addr) (cap : Nat) (b : List (BitVec 8)) (at_ : Nat) (err : Int) (e : Ending) (w' : World) : Prop :=
  e = .returned (.int .u16 (wb ((get64 (rdGot b at_ err 2)).setWidth 16))) ∧ Left w g A cap b at_ err 2 w'
set_option maxHeartbeats 1000000 in
theorem u64_any (g : Nat) (A : Option Addr) (cap : Nat) (b : List (BitVec 8)) (at_ : Nat) (err : Int) (w : World) (h : Rdr w g A cap b at_ err) :
    Calls Try.prog 68 #[.pointer (some ⟨g, 0, none⟩)] w (U64D w g A cap b at_ err) := by
  have hc := Lib.hid (raw_any g A cap b at_ err 8 w h)
  clear h
  go_enter Try.func68, Try.ntmps68
  go_wp2_with fail
  refine hc.out.mono ?_
  rintro e w1 ⟨v, rfl, hown, hl⟩
  go_wp2_with fail
  refine (own_get64 hown).mono ?_
  rintro e w2 ⟨rfl, rfl⟩
  go_wp2_with fail
  go_ret
  exact ⟨rfl, hl⟩
set_option maxHeartbeats 1000000 in
theorem u32_any (g : Nat) (A : Option Addr) (cap : Nat) (b : List (BitVec 8)) (at_ : Nat) (err : Int) (w : World) (h : Rdr w g A cap b at_ err) :
    Calls Try.prog 65 #[.pointer (some ⟨g, 0, none⟩)] w (U32D w g A cap b at_ err) := by
  have hc := Lib.hid (raw_any g A cap b at_ err 4 w h)
  clear h
  go_enter Try.func65, Try.ntmps65
  go_wp2_with fail
  refine hc.out.mono ?_
  rintro e w1 ⟨v, rfl, hown, hl⟩
  go_wp2_with fail
  refine (own_get64 hown).mono ?_
  rintro e w2 ⟨rfl, rfl⟩
  go_wp2_with fail
  go_ret
  exact ⟨rfl, hl⟩
set_option maxHeartbeats 1000000 in
theorem left_any (g : Nat) (A : Option Addr) (cap : Nat) (b : List (BitVec 8)) (at_ : Nat) (err : Int) (w : World) (h : Rdr w g A cap b at_ err) :
    Calls Try.prog 71 #[.pointer (some ⟨g, 0, none⟩)] w fun e w' => e = .returned (.int .i64 ((b.length : Int) - (at_ : Int))) ∧ ∃ n, w' = w.drewN n := by
  have c0 : w.cell? ⟨g, 0, none⟩ = some (.slice A b.length cap) := by rw [h.blk.cell]; rfl
  have c1 : w.cell? ⟨g, 1, none⟩ = some (.int .i64 at_) := by rw [h.blk.cell]; rfl
  have hle : (at_ : Int) ≤ (b.length : Int) := by have := h.hle; omega
  have hlen : (b.length : Int) ≤ 140737488355328 := by have := h.hlen; omega
  clear h
  generalize b.length = len at *
  go_enter Try.func71, Try.ntmps71
  go_wp2_with fail
  go_quiet (fail)
  go_wp2_with fail
  go_ret
  exact ⟨rfl, _, rfl⟩
set_option maxHeartbeats 1000000 in
theorem read_any (l : List (BitVec 8)) (A : Option Addr) (cap : Nat) (w : World) (hR : Rd w .u8 A l) (hlen : l.length ≤ 140737488355328) :
    Calls Try.prog 56 #[.slice A l.length cap] w fun e w' => ∃ g A' cap', e = .returned (.pointer (some ⟨g, 0, none⟩)) ∧ Rdr w' g A' cap' l 0 0 ∧ w.heap.size ≤ g ∧ Below w.heap.size w w' := by
  have hc := Lib.hid (clone_any l A cap w hR hlen)
  obtain ⟨len, hl⟩ : ∃ len, len = l.length := ⟨_, rfl⟩
  have HL := Lib.hid hl
  rw [← hl] at hlen hc ⊢
  clear hl
  go_enter Try.func56, Try.ntmps56
  go_wp2_with fail
  refine hc.out.mono ?_
  rintro e w1 ⟨v, rfl, hown, hb⟩
  clear hc
  have hown' : w1.ownsRow w.heap.size 5 1 v l.length (encL .u8 l) := hown
  obtain ⟨A', cap', rfl, hcap, _, hC, hnil, hsome⟩ := owns_form hown'
  have hrd : Rd w1 .u8 A' l := by
    obtain ⟨A2, cap2, he, _, hr⟩ := ownsRow_rd hown'
    cases he
    exact hr
  clear hown hown'
  rw [← HL.out] at hcap ⊢
  go_wp2_with fail
  go_ret
  refine ⟨_, A', cap', rfl, ⟨?_, hrd.below ((Below.refl _ _).alloc (Nat.le_refl _) _), fun a ha => ?_, by rw [← HL.out]; exact hcap, Nat.zero_le _, by rw [← HL.out]; exact hlen⟩, hb.size, hb.alloc hb.size _⟩
  · rw [← HL.out]
    exact Blk.new _ _ _
  · have := (hsome a ha).2.2.2.1
    omega
end Go.Proofs.Ytjnbgoiaocpcjaa
