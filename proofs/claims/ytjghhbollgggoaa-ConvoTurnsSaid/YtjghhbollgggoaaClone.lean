/- slices.Clone of bytes: nil, or a row of the call's own. -/
import Derived.Test.YtjghhbollgggoaaRow
import Derived.Test.YtjghhbollgggoaaProg
import Derived.WalkSpells
namespace Go.Proofs.Ytjghhbollgggoaa
open Go.RowKit
theorem bytesT : ElemT Try.prog 46 5 (.int .u8 0) 1 1 := ⟨Try.underlying46, by kernel_rfl, rfl, by decide, by decide⟩
theorem rd_none {w : World} {k : IntKind} {n : Nat} {l : List (BitVec n)} (h : Rd w k none l) : l = [] := by
  cases l with
  | nil => rfl
  | cons x l => obtain ⟨_, _, h, _⟩ := h 0 (by simp); cases h
set_option maxHeartbeats 1000000 in
theorem clone_any (l : List (BitVec 8)) (A : Option Addr) (cap : Nat) (w : World) (hR : Rd w .u8 A l) (hlen : l.length ≤ 140737488355328) :
    Calls Try.prog 63 #[.slice A l.length cap] w (RetOwn w 5 .u8 l) := by
  cases A with
  | none =>
    obtain rfl := rd_none hR
    have k1 := fun wx => Lib.run_eql_slice_nil (P := Try.prog) wx 46 5 none 0 cap 0 0 Try.underlying46
    go_enter Try.func63, Try.ntmps63
    go_wp2
    go_ret
    exact ⟨_, rfl, World.ownsRow_nil _ _ _ _, Below.refl _ _⟩
  | some a =>
    obtain ⟨n, hn⟩ : ∃ n, n = l.length := ⟨_, rfl⟩
    rw [← hn]
    have HN := Lib.hid hn
    have k1 := fun wx => Lib.run_eql_slice_nil (P := Try.prog) wx 46 5 (some a) n cap 0 0 Try.underlying46
    rw [← hn] at hlen
    clear hn
    go_enter Try.func63, Try.ntmps63
    go_wp2_with (first | (at_builtin; refine wpList_append_row rfl _ _ bytesT rfl w.heap.size _ 0 [] rfl (World.ownsRow_made w #[] 0 (Nat.le_refl _) (Nat.zero_le _) rfl) (some a) n cap (encL .u8 l) rfl (by rw [encL_length, HN.out, Nat.mul_one]) (hR.cells.below ((Below.refl _ _).alloc (Nat.le_refl _) _)) (encL_one _ _) (by omega) (by simp) ?_; intro v w1 hown hgr _; simp only [Nat.zero_add, List.nil_append] at hown))
    go_ret
    refine ⟨_, rfl, by rw [← HN.out]; exact hown, below_grown ((Below.refl _ _).alloc (Nat.le_refl _) _) (by simp) hgr (fun k hk => by cases hk; exact Nat.le_refl _)⟩
end Go.Proofs.Ytjghhbollgggoaa
